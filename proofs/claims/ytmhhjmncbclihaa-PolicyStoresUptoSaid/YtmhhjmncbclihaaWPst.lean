/- Walks: WSrt, WVaryR, WVaryM, WPst1, WPst2, WPst3, WPst4. -/
import Derived.Test.YtmhhjmncbclihaaChecked
import Derived.Test.YtmhhjmncbclihaaSpecs
import Derived.Test.YtmhhjmncbclihaaChg
import Derived.Test.YtmhhjmncbclihaaAppF
import Derived.Test.YtmhhjmncbclihaaAppG
import Derived.Test.YtmhhjmncbclihaaSlr
import Derived.Deep.RegionHeld3
import Derived.Sort.Walk0
import Derived.Deep.DeepCutAuto
import Derived.Test.YtmhhjmncbclihaaWVary
import Derived.Test.YtmhhjmncbclihaaWLowR
import Derived.Test.YtmhhjmncbclihaaWDirs
import Derived.Test.YtmhhjmncbclihaaSpecUse
import Derived.Test.YtmhhjmncbclihaaBoxAt
import Derived.Test.YtmhhjmncbclihaaWStale
import Derived.Test.YtmhhjmncbclihaaWAny
namespace Go.Proofs.Ytmhhjmncbclihaa
section
open Go.RowKit Go.Larder Go.Sort
set_option linter.unusedVariables false
set_option linter.unusedSimpArgs false
theorem leB_yes {y s : List UInt8} (h : (Op.bytesLess y s = true ∨ (y == s) = true)) : leB y s = true := by
  unfold leB
  rw [decide_eq_true_eq]
  rcases h with h | h
  · rw [bytesLess_eq, decide_eq_true_eq] at h
    exact List.le_of_lt h
  · rw [eq_of_beq h]; exact List.le_refl _
theorem leB_no {y s : List UInt8} (h : (Op.bytesLess y s = false ∧ (y == s) = false)) : leB y s = false := by
  unfold leB
  rw [decide_eq_false_iff_not]
  intro hle
  obtain ⟨h1, h2⟩ := h
  rw [bytesLess_eq, decide_eq_false_iff_not, List.not_lt] at h1
  rw [List.le_antisymm hle h1] at h2
  simp at h2
theorem sl_strT : SlT Try.prog 22 9 1 16 := SlT.mk' (z := .string ByteArray.empty) Try.underlying22 (by kernel_rfl) rfl
theorem w_CopyT (l : List (List UInt8)) (hl : l.length ≤ 100000) (A : Option Addr) (c : Nat) (w : World) (hr : ReadL encL w w.heap.size A l) :
    Calls Try.prog 101 #[.slice A l.length c] w fun e w' => (∃ A2 c2, e = .returned (.slice A2 l.length c2) ∧ OwnL encL w' w.heap.size 9 A2 c2 l) ∧ Below w.heap.size w w' := by
  have hn : OwnL encL w w.heap.size 9 none 0 ([] : List (List UInt8)) := OwnL.nil _ _ _
  go_enter Try.func101, Try.ntmps101
  go_wp2_with (at_builtin
               refine wpList_app_any encL sl_strT l rfl _ _ rfl rfl hn rfl hr (by simp; omega) (by simp only [maxLen, List.length_nil]; omega) (Nat.le_refl _) ?_
               intro A2 c2 w3 hown3 hb3)
  go_ret
  exact ⟨⟨A2, c2, by simp, by simpa using hown3⟩, hb3⟩
set_option maxHeartbeats 8000000 in
set_option maxRecDepth 100000 in
theorem w_sorted (l : List (List UInt8)) (hl : l.length ≤ 1000) (A : Option Addr) (c : Nat) (w : World) (hr : ReadL encL w w.heap.size A l) :
    Calls Try.prog 71 #[.slice A l.length c] w fun e w' => (∃ A' c', e = .returned (.slice A' (sortL l).length c') ∧ OwnL encL w' w.heap.size 9 A' c' (sortL l)) ∧ Below w.heap.size w w' := by
  go_enter Try.func71, Try.ntmps71
  go_wp2_with fail
  go_loopw [3, 9] (fun o' i' wr => ∃ (i : Nat) (out : List (List UInt8)) (A : Option Addr) (c : Nat), i' = .int .i64 i ∧ o' = .slice A out.length c ∧ i ≤ l.length ∧ out.length = i ∧ Hid (out = sortL (l.take i)) ∧ OwnL encL wr w.heap.size 9 A c out ∧ Below w.heap.size w wr)
    (fun _ i' _ => l.length - (intOf i').toNat)
  case atStart => exact ⟨0, [], none, 0, rfl, rfl, by omega, rfl, Lib.hid (by simp [sortL]), OwnL.nil _ _ _, Below.refl _ _⟩
  case round =>
    obtain ⟨i, out, A1, c1, rfl, rfl, hi, hol, hso, hown, hbel⟩ := hrel
    obtain ⟨wo, hwo⟩ : ∃ wo, wo = wr := ⟨_, rfl⟩
    subst hwo
    have Hol := Lib.hid hol
    have holb : out.length ≤ 1000 := by omega
    clear hol
    by_cases hlt : i < l.length
    · obtain ⟨s, hx, hd⟩ := drop_step hlt
      obtain ⟨g, off, rfl, hgb, hc0⟩ := (hr.below hbel (Nat.le_refl _)).at_S hx
      have Hx := Lib.hid hx
      clear hx hd
      go_wp2_with fail
      go_loopw [6] (fun k' wv => ∃ k : Nat, k' = .int .i64 k ∧ k ≤ out.length ∧ k ≤ posOf s out ∧ wv = wo) (fun k' _ => out.length - (intOf k').toNat)
      case atStart => exact ⟨0, rfl, by omega, by omega, by first | rfl | trivial⟩
      case round =>
        obtain ⟨k, rfl, hk, hkp, rfl⟩ := hrel
        by_cases hkl : k < out.length
        · obtain ⟨y, hy⟩ : ∃ y, out[k]? = some y := ⟨_, List.getElem?_eq_getElem hkl⟩
          obtain ⟨g2, off2, rfl, hg2, hc2⟩ := hown.read.at_S hy
          cases hle : (Op.bytesLess y s || y == s)
          · have hle2 : Op.bytesLess y s = false ∧ (y == s) = false := by simpa using hle
            have Hpos := Lib.hid (posOf_stop hy hkp (leB_no hle2))
            have hl1 := hle2.1
            have hl2 := hle2.2
            have hle3 : ¬ (Op.bytesLess y s = true ∨ (y == s) = true) := by rw [hl1, hl2]; simp
            go_wp2_with fail
            have Hy2 := Lib.hid Hpos.out
            obtain ⟨A4, hs1, hr1⟩ := run_sliceH (some ⟨g2, off2, none⟩) out.length c1 k (by have := hown.le_cap; omega)
            obtain ⟨A3, hs2, hr2⟩ := run_sliceL (some ⟨g2, off2, none⟩) out.length c1 k hk hown.le_cap
            have hrt := hr1 hk hown.read
            have hrd := hr2 rfl hown.read
            have htk : (out.take k).length = k := by rw [List.length_take]; omega
            have hdk : (out.drop k).length = out.length - k := by rw [List.length_drop]
            have hcp : ∀ W, Below wr.heap.size wr W → Calls Try.prog 101 #[.slice A4 k c1] W fun e w' => (∃ A2 c2, e = .returned (.slice A2 k c2) ∧ OwnL encL w' W.heap.size 9 A2 c2 (out.take k)) ∧ Below W.heap.size W w' :=
              fun W hW => by
                have h := w_CopyT (out.take k) (by omega) A4 c1 W ((ReadL.below hrt hW (Nat.le_refl _)).more hW.size)
                rwa [htk] at h
            have hB0 : Below wr.heap.size wr wr.drew := (Below.refl _ wr).drew
            have hBl : Below wr.heap.size wr (wr.drew.alloc (.cells #[S s] 9)) := hB0.alloc (Nat.le_refl _) _
            have htb : (out.take k).length ≤ 1000 := by omega
            have hdb : (out.drop k).length ≤ 1000 := by omega
            clear hdk
            have hins := Lib.hid (show insAt k s out = sortL (l.take (i + 1)) from by
              have h := ins_sort (s := s) hso.out
              rw [Hy2.out] at h
              rw [h, List.take_add_one, Hx.out]; rfl)
            have hlen := Lib.hid (show (insAt k s out).length = i + 1 from by unfold insAt; simp; have := Hol.out; omega)
            have hlen2 : (insAt k s out).length = k + (1 + (out.length - k)) := by unfold insAt; simp; omega
            refine wp_region_held_drew (S := (fun W => Below wr.heap.size wr W)) (by kernel_rfl) hB0 (fun hHeld => ?_)
            refine wpAnyH_take (i := 0) (v := ?_) rfl (by kernel_rfl) (by kernel_rfl) (by kernel_rfl) (fun _ _ _ h => h) (Or.inl ⟨by rfl, by (intro W hSw; (try dsimp only at hSw); go_simp; try (with_reducible rfl))⟩) (by assumption) ?_
            try simp only [Act.put, List.setIfInBounds_toArray, List.set_cons_zero, List.set_cons_succ]
            refine wpAnyH_take (i := 1) (v := ?_) rfl (by kernel_rfl) (by kernel_rfl) (by kernel_rfl) (fun _ _ _ h => h) (Or.inl ⟨by rfl, by (intro W hSw; (try dsimp only at hSw); go_simp; try (with_reducible rfl))⟩) (by assumption) ?_
            try simp only [Act.put, List.setIfInBounds_toArray, List.set_cons_zero, List.set_cons_succ]
            refine wpAnyH_take (i := 2) (v := ?_) rfl (by kernel_rfl) (by kernel_rfl) (by kernel_rfl) (fun _ _ _ h => h) (Or.inl ⟨by rfl, by (intro W hSw; (try dsimp only at hSw); go_simp; try (with_reducible rfl))⟩) (by assumption) ?_
            try simp only [Act.put, List.setIfInBounds_toArray, List.set_cons_zero, List.set_cons_succ]
            refine wpAnyH_take (i := 4) (v := ?_) rfl (by kernel_rfl) (by kernel_rfl) (by kernel_rfl) (fun _ _ _ h => h) (Or.inl ⟨by rfl, by (intro W hSw; (try dsimp only at hSw); go_simp; try (with_reducible rfl))⟩) (by assumption) ?_
            try simp only [Act.put, List.setIfInBounds_toArray, List.set_cons_zero, List.set_cons_succ]
            refine wpAnyH_take (i := 6) (v := ?_) rfl (by kernel_rfl) (by kernel_rfl) (by kernel_rfl) (fun _ _ _ h => h) (Or.inl ⟨by rfl, by (intro W hSw; (try dsimp only at hSw); go_simp; try (with_reducible rfl))⟩) (by assumption) ?_
            try simp only [Act.put, List.setIfInBounds_toArray, List.set_cons_zero, List.set_cons_succ]
            refine wpAnyH_take (i := 7) (v := ?_) rfl (by kernel_rfl) (by kernel_rfl) (by kernel_rfl) (fun _ _ _ h => h) (Or.inl ⟨by rfl, by (intro W hSw; (try dsimp only at hSw); go_simp; try (with_reducible rfl))⟩) (by assumption) ?_
            try simp only [Act.put, List.setIfInBounds_toArray, List.set_cons_zero, List.set_cons_succ]
            refine wpAnyH_take (i := 8) (v := ?_) rfl (by kernel_rfl) (by kernel_rfl) (by kernel_rfl) (fun _ _ _ h => h) (Or.inl ⟨by rfl, by (intro W hSw; (try dsimp only at hSw); go_simp; try (with_reducible rfl))⟩) (by assumption) ?_
            try simp only [Act.put, List.setIfInBounds_toArray, List.set_cons_zero, List.set_cons_succ]
            refine wpAnyH_ready (rs := [3, 5]) (by kernel_rfl) (by simp) ?_
            refine AllReadyH.cons rfl (fun K hK => ?_) ?_
            · (go_simp; go_at_call 101; refine Calls.mono (hcp _ (by exact hB0)) ?_; rintro e w1 ⟨⟨A5, c5, rfl, hown5⟩, hb5⟩; have hB1 : Below wr.heap.size wr w1 := Below.trans (by exact hB0) (hb5.mono (by first | exact Nat.le_refl _ | (simp; done) | exact (Below.size hB2))))
              refine hK.out _ _ hB1 (fun hHeld => ?_)
              clear hK K
              try simp only [Act.put, List.setIfInBounds_toArray, List.set_cons_zero, List.set_cons_succ]
              refine wpAnyH_ready (rs := [5]) (by kernel_rfl) (by simp) ?_
              refine AllReadyH.cons rfl (fun K hK => ?_) ?_
              · (go_simp; (try go_wp2_with fail))
                refine hK.out _ _ (hB1.alloc hB1.size _) (fun hHeld => ?_)
                clear hK K
                try simp only [Act.put, List.setIfInBounds_toArray, List.set_cons_zero, List.set_cons_succ]
                refine wpAnyH_ready (rs := [9]) (by kernel_rfl) (by simp) ?_
                refine AllReadyH.cons rfl (fun K hK => ?_) ?_
                · (refine step_app_atn (base := w1.heap.size) encL sl_strT (out.drop k) (by rfl) _ _ (by rfl) (l := [s]) (by rfl) (by exact (own_lit (E := encL) w1 w1.heap.size 9 #[S s] [s] rfl (Nat.le_refl _) (by simp [maxLen]))) (by rfl) (ReadL.below hrd (by exact (hB1.alloc hB1.size (.cells #[S s] 9))) (Nat.le_refl _)) rfl (by rw [List.length_drop]) (by simp; omega) (by simp [maxLen]; omega) (by first | exact Nat.le_refl _ | exact hB2.size | (simp; done)) ?_; intro A6 c6 w3 hown6 hgr6 hb6; have hB3 : Below wr.heap.size wr w3 := Below.trans (by exact (hB1.alloc hB1.size (.cells #[S s] 9))) (hb6.mono hB1.size); have hown5b : OwnL encL w3 wr.heap.size 9 A5 c5 (out.take k) := hown5.keep fun a ha => (hb6.block a.block (hown5.lt a ha).2).trans (Below.heap_alloc w1 _ _ (hown5.lt a ha).2))
                  refine hK.out _ _ hB3 (fun hHeld => ?_)
                  clear hK K
                  try simp only [Act.put, List.setIfInBounds_toArray, List.set_cons_zero, List.set_cons_succ]
                  refine wpAnyH_ready (rs := [10]) (by kernel_rfl) (by simp) ?_
                  refine AllReadyH.cons rfl (fun K hK => ?_) ?_
                  · (refine step_app_atn (base := wr.heap.size) encL sl_strT ([s] ++ out.drop k) (by rfl) _ _ (by rfl) (l := out.take k) (by rfl) (by exact hown5b) (by rfl) (by exact OwnL.read hown6) htk (by first | (rw [List.length_append, List.length_drop]; done) | (rw [List.length_append, List.length_drop]; rfl) | (simp; omega)) (by simp; omega) (by simp [maxLen]; omega) (by exact Below.size hB3) ?_; intro A7 c7 w4 hown7 hgr7 hb7; have hB4 : Below wr.heap.size wr w4 := Below.trans hB3 hb7)
                    refine hK.out _ _ hB4 (fun hHeld => ?_)
                    clear hK K
                    try simp only [Act.put, List.setIfInBounds_toArray, List.set_cons_zero, List.set_cons_succ]
                    refine wpAnyH_ready (rs := [11]) (by kernel_rfl) (by simp) ?_
                    refine AllReadyH.cons rfl (fun K hK => ?_) ?_
                    · (go_simp; (try go_wp2_with fail))
                      refine hK.out _ _ hB4 (fun hHeld => ?_)
                      clear hK K
                      try simp only [Act.put, List.setIfInBounds_toArray, List.set_cons_zero, List.set_cons_succ]
                      refine wpAnyH_done (by kernel_rfl) ?_ _
                      go_wp2_with fail
                      go_roundw
                      case rel => exact ⟨i + 1, insAt k s out, A7, c7, by go_num, by rw [hlen2], by omega, hlen.out, hins, by simpa [insAt] using hown7.base_le hbel.size, hbel.trans (hB4.mono hbel.size)⟩
                      case measure => simp [intOf]; omega
                    exact AllReadyH.nil
                  exact AllReadyH.nil
                exact AllReadyH.nil
              exact AllReadyH.nil
            refine AllReadyH.cons rfl (fun K hK => ?_) ?_
            · (go_simp; (try go_wp2_with fail))
              refine hK.out _ _ hBl (fun hHeld => ?_)
              clear hK K
              try simp only [Act.put, List.setIfInBounds_toArray, List.set_cons_zero, List.set_cons_succ]
              refine wpAnyH_ready (rs := [3]) (by kernel_rfl) (by simp) ?_
              refine AllReadyH.cons rfl (fun K hK => ?_) ?_
              · (go_simp; go_at_call 101; refine Calls.mono (hcp _ (by exact hBl)) ?_; rintro e w2 ⟨⟨A5, c5, rfl, hown5⟩, hb5⟩; have hB2 : Below wr.heap.size wr w2 := Below.trans (by exact hBl) (hb5.mono (by first | exact Nat.le_refl _ | (simp; done) | exact (Below.size hB2))); have hlit2 : OwnL encL w2 wr.heap.size 9 (some ⟨wr.heap.size, 0, none⟩) [s].length [s] := OwnL.keep (own_lit (E := encL) wr.drew wr.heap.size 9 #[S s] [s] rfl (Nat.le_refl _) (by simp [maxLen])) fun a ha => hb5.block a.block (by cases ha; show wr.heap.size < (wr.heap.push _).size; rw [Array.size_push]; omega))
                refine hK.out _ _ hB2 (fun hHeld => ?_)
                clear hK K
                try simp only [Act.put, List.setIfInBounds_toArray, List.set_cons_zero, List.set_cons_succ]
                refine wpAnyH_ready (rs := [9]) (by kernel_rfl) (by simp) ?_
                refine AllReadyH.cons rfl (fun K hK => ?_) ?_
                · (refine step_app_atn (base := wr.heap.size) encL sl_strT (out.drop k) (by rfl) _ _ (by rfl) (l := [s]) (by rfl) (by exact hlit2) (by rfl) (ReadL.below hrd (by exact hB2) (Nat.le_refl _)) rfl (by rw [List.length_drop]) (by simp; omega) (by simp [maxLen]; omega) (by first | exact Nat.le_refl _ | exact hB2.size | (simp; done)) ?_; intro A6 c6 w3 hown6 hgr6 hb6; have hB3 : Below wr.heap.size wr w3 := Below.trans (by exact hB2) (hb6.mono (Nat.le_refl _)); have hown5b : OwnL encL w3 wr.heap.size 9 A5 c5 (out.take k) := (hown5.base_le (by show wr.heap.size ≤ (wr.heap.push _).size; simp)).keep fun a ha => hgr6.block a.block (hown5.lt a ha).2 (by have h7 : (wr.heap.push (.cells #[S s] 9)).size ≤ a.block := (hown5.lt a ha).1; simp at h7; simp [blkOf]; omega))
                  refine hK.out _ _ hB3 (fun hHeld => ?_)
                  clear hK K
                  try simp only [Act.put, List.setIfInBounds_toArray, List.set_cons_zero, List.set_cons_succ]
                  refine wpAnyH_ready (rs := [10]) (by kernel_rfl) (by simp) ?_
                  refine AllReadyH.cons rfl (fun K hK => ?_) ?_
                  · (refine step_app_atn (base := wr.heap.size) encL sl_strT ([s] ++ out.drop k) (by rfl) _ _ (by rfl) (l := out.take k) (by rfl) (by exact hown5b) (by rfl) (by exact OwnL.read hown6) htk (by first | (rw [List.length_append, List.length_drop]; done) | (rw [List.length_append, List.length_drop]; rfl) | (simp; omega)) (by simp; omega) (by simp [maxLen]; omega) (by exact Below.size hB3) ?_; intro A7 c7 w4 hown7 hgr7 hb7; have hB4 : Below wr.heap.size wr w4 := Below.trans hB3 hb7)
                    refine hK.out _ _ hB4 (fun hHeld => ?_)
                    clear hK K
                    try simp only [Act.put, List.setIfInBounds_toArray, List.set_cons_zero, List.set_cons_succ]
                    refine wpAnyH_ready (rs := [11]) (by kernel_rfl) (by simp) ?_
                    refine AllReadyH.cons rfl (fun K hK => ?_) ?_
                    · (go_simp; (try go_wp2_with fail))
                      refine hK.out _ _ hB4 (fun hHeld => ?_)
                      clear hK K
                      try simp only [Act.put, List.setIfInBounds_toArray, List.set_cons_zero, List.set_cons_succ]
                      refine wpAnyH_done (by kernel_rfl) ?_ _
                      go_wp2_with fail
                      go_roundw
                      case rel => exact ⟨i + 1, insAt k s out, A7, c7, by go_num, by rw [hlen2], by omega, hlen.out, hins, by simpa [insAt] using hown7.base_le hbel.size, hbel.trans (hB4.mono hbel.size)⟩
                      case measure => simp [intOf]; omega
                    exact AllReadyH.nil
                  exact AllReadyH.nil
                exact AllReadyH.nil
              exact AllReadyH.nil
            exact AllReadyH.nil
          · have hle2 : Op.bytesLess y s = true ∨ (y == s) = true := by simpa using hle
            have Hpos := Lib.hid (posOf_step hy hkp (leB_yes hle2))
            clear hle2
            go_wp2_with fail
            go_roundw
            case rel => exact ⟨k + 1, by go_num, by omega, Hpos.out, by first | rfl | trivial⟩
            case measure => simp [intOf]; omega
        · have Hpos := Lib.hid (show posOf s out = k from by have := posOf_le s out; omega)
          have hI : ¬ (k : Int) < (out.length : Int) := by omega
          go_wp2_with fail
          have Hy2 := Lib.hid Hpos.out
          obtain ⟨A4, hs1, hr1⟩ := run_sliceH A1 out.length c1 k (by have := hown.le_cap; omega)
          obtain ⟨A3, hs2, hr2⟩ := run_sliceL A1 out.length c1 k hk hown.le_cap
          have hrt := hr1 hk hown.read
          have hrd := hr2 rfl hown.read
          have htk : (out.take k).length = k := by rw [List.length_take]; omega
          have hdk : (out.drop k).length = out.length - k := by rw [List.length_drop]
          have hcp : ∀ W, Below wr.heap.size wr W → Calls Try.prog 101 #[.slice A4 k c1] W fun e w' => (∃ A2 c2, e = .returned (.slice A2 k c2) ∧ OwnL encL w' W.heap.size 9 A2 c2 (out.take k)) ∧ Below W.heap.size W w' :=
            fun W hW => by
              have h := w_CopyT (out.take k) (by omega) A4 c1 W ((ReadL.below hrt hW (Nat.le_refl _)).more hW.size)
              rwa [htk] at h
          have hB0 : Below wr.heap.size wr wr.drew := (Below.refl _ wr).drew
          have hBl : Below wr.heap.size wr (wr.drew.alloc (.cells #[S s] 9)) := hB0.alloc (Nat.le_refl _) _
          have htb : (out.take k).length ≤ 1000 := by omega
          have hdb : (out.drop k).length ≤ 1000 := by omega
          clear hdk
          have hins := Lib.hid (show insAt k s out = sortL (l.take (i + 1)) from by
            have h := ins_sort (s := s) hso.out
            rw [Hy2.out] at h
            rw [h, List.take_add_one, Hx.out]; rfl)
          have hlen := Lib.hid (show (insAt k s out).length = i + 1 from by unfold insAt; simp; have := Hol.out; omega)
          have hlen2 : (insAt k s out).length = k + (1 + (out.length - k)) := by unfold insAt; simp; omega
          refine wp_region_held_drew (S := (fun W => Below wr.heap.size wr W)) (by kernel_rfl) hB0 (fun hHeld => ?_)
          refine wpAnyH_take (i := 0) (v := ?_) rfl (by kernel_rfl) (by kernel_rfl) (by kernel_rfl) (fun _ _ _ h => h) (Or.inl ⟨by rfl, by (intro W hSw; (try dsimp only at hSw); go_simp; try (with_reducible rfl))⟩) (by assumption) ?_
          try simp only [Act.put, List.setIfInBounds_toArray, List.set_cons_zero, List.set_cons_succ]
          refine wpAnyH_take (i := 1) (v := ?_) rfl (by kernel_rfl) (by kernel_rfl) (by kernel_rfl) (fun _ _ _ h => h) (Or.inl ⟨by rfl, by (intro W hSw; (try dsimp only at hSw); go_simp; try (with_reducible rfl))⟩) (by assumption) ?_
          try simp only [Act.put, List.setIfInBounds_toArray, List.set_cons_zero, List.set_cons_succ]
          refine wpAnyH_take (i := 2) (v := ?_) rfl (by kernel_rfl) (by kernel_rfl) (by kernel_rfl) (fun _ _ _ h => h) (Or.inl ⟨by rfl, by (intro W hSw; (try dsimp only at hSw); go_simp; try (with_reducible rfl))⟩) (by assumption) ?_
          try simp only [Act.put, List.setIfInBounds_toArray, List.set_cons_zero, List.set_cons_succ]
          refine wpAnyH_take (i := 4) (v := ?_) rfl (by kernel_rfl) (by kernel_rfl) (by kernel_rfl) (fun _ _ _ h => h) (Or.inl ⟨by rfl, by (intro W hSw; (try dsimp only at hSw); go_simp; try (with_reducible rfl))⟩) (by assumption) ?_
          try simp only [Act.put, List.setIfInBounds_toArray, List.set_cons_zero, List.set_cons_succ]
          refine wpAnyH_take (i := 6) (v := ?_) rfl (by kernel_rfl) (by kernel_rfl) (by kernel_rfl) (fun _ _ _ h => h) (Or.inl ⟨by rfl, by (intro W hSw; (try dsimp only at hSw); go_simp; try (with_reducible rfl))⟩) (by assumption) ?_
          try simp only [Act.put, List.setIfInBounds_toArray, List.set_cons_zero, List.set_cons_succ]
          refine wpAnyH_take (i := 7) (v := ?_) rfl (by kernel_rfl) (by kernel_rfl) (by kernel_rfl) (fun _ _ _ h => h) (Or.inl ⟨by rfl, by (intro W hSw; (try dsimp only at hSw); go_simp; try (with_reducible rfl))⟩) (by assumption) ?_
          try simp only [Act.put, List.setIfInBounds_toArray, List.set_cons_zero, List.set_cons_succ]
          refine wpAnyH_take (i := 8) (v := ?_) rfl (by kernel_rfl) (by kernel_rfl) (by kernel_rfl) (fun _ _ _ h => h) (Or.inl ⟨by rfl, by (intro W hSw; (try dsimp only at hSw); go_simp; try (with_reducible rfl))⟩) (by assumption) ?_
          try simp only [Act.put, List.setIfInBounds_toArray, List.set_cons_zero, List.set_cons_succ]
          refine wpAnyH_ready (rs := [3, 5]) (by kernel_rfl) (by simp) ?_
          refine AllReadyH.cons rfl (fun K hK => ?_) ?_
          · (go_simp; go_at_call 101; refine Calls.mono (hcp _ (by exact hB0)) ?_; rintro e w1 ⟨⟨A5, c5, rfl, hown5⟩, hb5⟩; have hB1 : Below wr.heap.size wr w1 := Below.trans (by exact hB0) (hb5.mono (by first | exact Nat.le_refl _ | (simp; done) | exact (Below.size hB2))))
            refine hK.out _ _ hB1 (fun hHeld => ?_)
            clear hK K
            try simp only [Act.put, List.setIfInBounds_toArray, List.set_cons_zero, List.set_cons_succ]
            refine wpAnyH_ready (rs := [5]) (by kernel_rfl) (by simp) ?_
            refine AllReadyH.cons rfl (fun K hK => ?_) ?_
            · (go_simp; (try go_wp2_with fail))
              refine hK.out _ _ (hB1.alloc hB1.size _) (fun hHeld => ?_)
              clear hK K
              try simp only [Act.put, List.setIfInBounds_toArray, List.set_cons_zero, List.set_cons_succ]
              refine wpAnyH_ready (rs := [9]) (by kernel_rfl) (by simp) ?_
              refine AllReadyH.cons rfl (fun K hK => ?_) ?_
              · (refine step_app_atn (base := w1.heap.size) encL sl_strT (out.drop k) (by rfl) _ _ (by rfl) (l := [s]) (by rfl) (by exact (own_lit (E := encL) w1 w1.heap.size 9 #[S s] [s] rfl (Nat.le_refl _) (by simp [maxLen]))) (by rfl) (ReadL.below hrd (by exact (hB1.alloc hB1.size (.cells #[S s] 9))) (Nat.le_refl _)) rfl (by rw [List.length_drop]) (by simp; omega) (by simp [maxLen]; omega) (by first | exact Nat.le_refl _ | exact hB2.size | (simp; done)) ?_; intro A6 c6 w3 hown6 hgr6 hb6; have hB3 : Below wr.heap.size wr w3 := Below.trans (by exact (hB1.alloc hB1.size (.cells #[S s] 9))) (hb6.mono hB1.size); have hown5b : OwnL encL w3 wr.heap.size 9 A5 c5 (out.take k) := hown5.keep fun a ha => (hb6.block a.block (hown5.lt a ha).2).trans (Below.heap_alloc w1 _ _ (hown5.lt a ha).2))
                refine hK.out _ _ hB3 (fun hHeld => ?_)
                clear hK K
                try simp only [Act.put, List.setIfInBounds_toArray, List.set_cons_zero, List.set_cons_succ]
                refine wpAnyH_ready (rs := [10]) (by kernel_rfl) (by simp) ?_
                refine AllReadyH.cons rfl (fun K hK => ?_) ?_
                · (refine step_app_atn (base := wr.heap.size) encL sl_strT ([s] ++ out.drop k) (by rfl) _ _ (by rfl) (l := out.take k) (by rfl) (by exact hown5b) (by rfl) (by exact OwnL.read hown6) htk (by first | (rw [List.length_append, List.length_drop]; done) | (rw [List.length_append, List.length_drop]; rfl) | (simp; omega)) (by simp; omega) (by simp [maxLen]; omega) (by exact Below.size hB3) ?_; intro A7 c7 w4 hown7 hgr7 hb7; have hB4 : Below wr.heap.size wr w4 := Below.trans hB3 hb7)
                  refine hK.out _ _ hB4 (fun hHeld => ?_)
                  clear hK K
                  try simp only [Act.put, List.setIfInBounds_toArray, List.set_cons_zero, List.set_cons_succ]
                  refine wpAnyH_ready (rs := [11]) (by kernel_rfl) (by simp) ?_
                  refine AllReadyH.cons rfl (fun K hK => ?_) ?_
                  · (go_simp; (try go_wp2_with fail))
                    refine hK.out _ _ hB4 (fun hHeld => ?_)
                    clear hK K
                    try simp only [Act.put, List.setIfInBounds_toArray, List.set_cons_zero, List.set_cons_succ]
                    refine wpAnyH_done (by kernel_rfl) ?_ _
                    go_wp2_with fail
                    go_roundw
                    case rel => exact ⟨i + 1, insAt k s out, A7, c7, by go_num, by rw [hlen2], by omega, hlen.out, hins, by simpa [insAt] using hown7.base_le hbel.size, hbel.trans (hB4.mono hbel.size)⟩
                    case measure => simp [intOf]; omega
                  exact AllReadyH.nil
                exact AllReadyH.nil
              exact AllReadyH.nil
            exact AllReadyH.nil
          refine AllReadyH.cons rfl (fun K hK => ?_) ?_
          · (go_simp; (try go_wp2_with fail))
            refine hK.out _ _ hBl (fun hHeld => ?_)
            clear hK K
            try simp only [Act.put, List.setIfInBounds_toArray, List.set_cons_zero, List.set_cons_succ]
            refine wpAnyH_ready (rs := [3]) (by kernel_rfl) (by simp) ?_
            refine AllReadyH.cons rfl (fun K hK => ?_) ?_
            · (go_simp; go_at_call 101; refine Calls.mono (hcp _ (by exact hBl)) ?_; rintro e w2 ⟨⟨A5, c5, rfl, hown5⟩, hb5⟩; have hB2 : Below wr.heap.size wr w2 := Below.trans (by exact hBl) (hb5.mono (by first | exact Nat.le_refl _ | (simp; done) | exact (Below.size hB2))); have hlit2 : OwnL encL w2 wr.heap.size 9 (some ⟨wr.heap.size, 0, none⟩) [s].length [s] := OwnL.keep (own_lit (E := encL) wr.drew wr.heap.size 9 #[S s] [s] rfl (Nat.le_refl _) (by simp [maxLen])) fun a ha => hb5.block a.block (by cases ha; show wr.heap.size < (wr.heap.push _).size; rw [Array.size_push]; omega))
              refine hK.out _ _ hB2 (fun hHeld => ?_)
              clear hK K
              try simp only [Act.put, List.setIfInBounds_toArray, List.set_cons_zero, List.set_cons_succ]
              refine wpAnyH_ready (rs := [9]) (by kernel_rfl) (by simp) ?_
              refine AllReadyH.cons rfl (fun K hK => ?_) ?_
              · (refine step_app_atn (base := wr.heap.size) encL sl_strT (out.drop k) (by rfl) _ _ (by rfl) (l := [s]) (by rfl) (by exact hlit2) (by rfl) (ReadL.below hrd (by exact hB2) (Nat.le_refl _)) rfl (by rw [List.length_drop]) (by simp; omega) (by simp [maxLen]; omega) (by first | exact Nat.le_refl _ | exact hB2.size | (simp; done)) ?_; intro A6 c6 w3 hown6 hgr6 hb6; have hB3 : Below wr.heap.size wr w3 := Below.trans (by exact hB2) (hb6.mono (Nat.le_refl _)); have hown5b : OwnL encL w3 wr.heap.size 9 A5 c5 (out.take k) := (hown5.base_le (by show wr.heap.size ≤ (wr.heap.push _).size; simp)).keep fun a ha => hgr6.block a.block (hown5.lt a ha).2 (by have h7 : (wr.heap.push (.cells #[S s] 9)).size ≤ a.block := (hown5.lt a ha).1; simp at h7; simp [blkOf]; omega))
                refine hK.out _ _ hB3 (fun hHeld => ?_)
                clear hK K
                try simp only [Act.put, List.setIfInBounds_toArray, List.set_cons_zero, List.set_cons_succ]
                refine wpAnyH_ready (rs := [10]) (by kernel_rfl) (by simp) ?_
                refine AllReadyH.cons rfl (fun K hK => ?_) ?_
                · (refine step_app_atn (base := wr.heap.size) encL sl_strT ([s] ++ out.drop k) (by rfl) _ _ (by rfl) (l := out.take k) (by rfl) (by exact hown5b) (by rfl) (by exact OwnL.read hown6) htk (by first | (rw [List.length_append, List.length_drop]; done) | (rw [List.length_append, List.length_drop]; rfl) | (simp; omega)) (by simp; omega) (by simp [maxLen]; omega) (by exact Below.size hB3) ?_; intro A7 c7 w4 hown7 hgr7 hb7; have hB4 : Below wr.heap.size wr w4 := Below.trans hB3 hb7)
                  refine hK.out _ _ hB4 (fun hHeld => ?_)
                  clear hK K
                  try simp only [Act.put, List.setIfInBounds_toArray, List.set_cons_zero, List.set_cons_succ]
                  refine wpAnyH_ready (rs := [11]) (by kernel_rfl) (by simp) ?_
                  refine AllReadyH.cons rfl (fun K hK => ?_) ?_
                  · (go_simp; (try go_wp2_with fail))
                    refine hK.out _ _ hB4 (fun hHeld => ?_)
                    clear hK K
                    try simp only [Act.put, List.setIfInBounds_toArray, List.set_cons_zero, List.set_cons_succ]
                    refine wpAnyH_done (by kernel_rfl) ?_ _
                    go_wp2_with fail
                    go_roundw
                    case rel => exact ⟨i + 1, insAt k s out, A7, c7, by go_num, by rw [hlen2], by omega, hlen.out, hins, by simpa [insAt] using hown7.base_le hbel.size, hbel.trans (hB4.mono hbel.size)⟩
                    case measure => simp [intOf]; omega
                  exact AllReadyH.nil
                exact AllReadyH.nil
              exact AllReadyH.nil
            exact AllReadyH.nil
          exact AllReadyH.nil
    · obtain rfl : i = l.length := by omega
      have Hso := Lib.hid (show out = sortL l from by have := hso.out; rwa [List.take_length] at this)
      go_wp2_with fail
      go_ret
      rw [← Hso.out]
      exact ⟨⟨A1, c1, rfl, hown⟩, hbel⟩
end
end Go.Proofs.Ytmhhjmncbclihaa

namespace Go.Proofs.Ytmhhjmncbclihaa
section
open Go.RowKit Go.Larder
set_option linter.unusedVariables false
set_option linter.unusedSimpArgs false
theorem w_HasT (x : List UInt8) (l : List (List UInt8)) (hl : l.length ≤ 140737488351232) (A : Option Addr) (c B : Nat) (w : World) (hr : ReadL encL w B A l) :
    Calls Try.prog 70 #[.slice A l.length c, S x] w (fun e w' => e = .returned (.bool (l.any fun y => x == y)) ∧ w = w') := by
  go_enter Try.func70, Try.ntmps70
  go_wp2_with fail
  go_loop [9] (fun i' => ∃ k : Nat, i' = .int .i64 k ∧ k ≤ l.length ∧ ((l.drop k).any fun y => x == y) = (l.any fun y => x == y)) (fun i' => l.length - (intOf i').toNat)
  case atStart => exact ⟨0, rfl, by omega, rfl⟩
  case round =>
    obtain ⟨k, rfl, hk, heq⟩ := hrel
    by_cases hlt : k < l.length
    · obtain ⟨y, hy, hs⟩ := drop_step hlt
      obtain ⟨g, off, rfl, hgb, hc0⟩ := hr.at_S hy
      rw [hs, List.any_cons] at heq
      clear hs hy
      cases hw : (x == y)
      · rw [hw] at heq
        have Heq := Lib.hid heq; clear heq
        go_wp2_with fail
        go_round
        case rel => exact ⟨k + 1, by go_num, by omega, by rw [← Heq.out]; simp⟩
        case measure => simp [intOf]; omega
      · rw [hw] at heq
        have Heq := Lib.hid heq; clear heq
        go_wp2_with fail
        go_ret
        exact ⟨by rw [← Heq.out]; rfl, rfl⟩
    · rw [drop_end hlt] at heq
      have Heq := Lib.hid heq; clear heq
      go_wp2_with fail
      go_ret
      exact ⟨by rw [← Heq.out]; rfl, rfl⟩
theorem addN_star {out : List (List UInt8)} {p : List UInt8} (h : (p == [42]) = true) : addN out p = out := by unfold addN; rw [h]; rfl
theorem addN_old {out : List (List UInt8)} {p : List UInt8} (h : (p == [42]) = false) (h2 : (out.any fun y => lowL p == y) = true) : addN out p = out := by unfold addN; rw [h, if_neg (by simp), if_pos h2]
theorem addN_new {out : List (List UInt8)} {p : List UInt8} (h : (p == [42]) = false) (h2 : (out.any fun y => lowL p == y) = false) : addN out p = out ++ [lowL p] := by unfold addN; rw [h, if_neg (by simp), if_neg (by simp [h2])]
set_option maxHeartbeats 4000000 in
theorem w_NamesR (l : List Fld) (hj : (l.map (fun f => f.1.length + f.2.length + 3)).sum ≤ 1048576) (A : Option Addr) (c : Nat) (w : World) (hr : ReadL encF w w.heap.size A l) :
    Calls Try.prog 41 #[.slice A l.length c] w (VyPost w (varyE (Lib.join (valsL (lowL varyN) l) sepL))) := by
  have hg := w_GetRS varyN (by decide) l hj A c w hr
  have hsl := join_ok (nm := lowL varyN) hj
  generalize Lib.join (valsL (lowL varyN) l) sepL = s at *
  generalize (valsL (lowL varyN) l).isEmpty = emp at *
  have hsp := fun W => wt_SplitR s (by omega) W
  obtain ⟨R, hR⟩ : ∃ R, varyE s = R := ⟨_, rfl⟩
  rw [hR]
  cases hs : splitE s with
  | error n =>
    have hn := splitE_pos hs
    rw [varyE_err hs] at hR
    have HR := Lib.hid hR.symm
    clear hR
    go_enter Try.func41, Try.ntmps41
    go_wp2_with fail
    refine hg.mono ?_
    rintro e w1 ⟨rfl, hb1⟩
    go_wp2_with fail
    refine (hsp _).mono ?_
    intro e w2 hp
    obtain ⟨rfl, hb2⟩ := hp.err hs
    clear hp hs
    go_wp2_with fail
    go_ret3
    exact vyPost_no HR.out (hb1.trans (hb2.mono hb1.size))
  | ok ps =>
    have hl20 := splitE_ok hs
    have htx := splitE_text hs
    have HR := Lib.hid hR
    have Hs := Lib.hid hs
    clear hR
    go_enter Try.func41, Try.ntmps41
    go_wp2_with fail
    refine hg.mono ?_
    rintro e w1 ⟨rfl, hb1⟩
    go_wp2_with fail
    refine (hsp _).mono ?_
    intro e w2 hp
    obtain ⟨A2, c2, rfl, hown, hb2⟩ := hp.ok_ hs
    have hr2 := hown.read
    have hB2 := hb1.trans (hb2.mono hb1.size)
    clear hp hs hsp hg hown
    go_wp2_with fail
    go_loopw [9, 10, 28] (fun s' o' i' wr => ∃ (k : Nat) (out : List (List UInt8)) (A : Option Addr) (c : Nat), i' = .int .i64 k ∧ s' = .bool ((ps.take k).any fun p => p == [42]) ∧ o' = .slice A out.length c ∧ k ≤ ps.length ∧ out.length ≤ k ∧ Hid (out = namesL (ps.take k)) ∧ Hid ((ps.take k).all isTok = true) ∧ OwnL encL wr w2.heap.size 9 A c out ∧ Below w2.heap.size w2 wr) (fun _ _ i' _ => ps.length - (intOf i').toNat)
    case atStart => exact ⟨0, [], none, 0, rfl, rfl, rfl, by omega, by simp, Lib.hid rfl, Lib.hid rfl, OwnL.nil _ _ _, Below.refl _ _⟩
    case round =>
      obtain ⟨k, out, A3, c3, rfl, rfl, rfl, hk, hok, hnm, hall, hown, hbel⟩ := hrel
      have hbs := hbel.size
      by_cases hlt : k < ps.length
      · obtain ⟨p, hx, hd⟩ := drop_step hlt
        obtain ⟨g, off, rfl, hgb, hc0⟩ := (hr2.below hbel (Nat.le_refl _)).at_S hx
        have hpl := htx p (List.mem_of_getElem? hx)
        have Hx := Lib.hid hx
        have hti := fun W => w_TokenR p (by omega) W
        have hlo := fun W => w_LowerR p (by omega) W
        have hstar := any_step (p := fun p : List UInt8 => p == [42]) hx
        have hns := names_step hx
        rw [← hnm.out] at hns
        clear hx hd
        generalize ((ps.take k).any fun p => p == [42]) = st0 at *
        cases htk : isTok p
        · rw [htk] at hti
          have HR2 := Lib.hid (show R = .error 3 from by rw [← HR.out]; exact varyE_bad Hs.out (allG_bad Hx.out htk))
          clear htk hstar hns
          go_wp2_with fail
          refine (hti _).mono ?_
          rintro e w' ⟨rfl, rfl⟩
          go_wp2_with fail
          go_ret3
          exact vyPost_no HR2.out (hB2.trans (hbel.mono hB2.size))
        · rw [htk] at hti
          have Hall := Lib.hid (allG_step Hx.out hall.out htk)
          have Hstar := Lib.hid hstar
          have hlpl := lowL_len p
          have hha := fun W (h : ReadL encL W W.heap.size A3 out) => w_HasT (lowL p) out (by omega) A3 c3 W.heap.size W h
          clear htk hstar
          cases hps : (p == [42])
          · have Hps := Lib.hid hps
            cases hold : (out.any fun y => lowL p == y)
            · have Hns := Lib.hid (hns.trans (addN_new hps hold))
              rw [hold] at hha
              clear hns hold
              generalize hlw : lowL p = lp at *
              clear hlw
              cases st0
              all_goals
                go_wp2_with fail
                refine (hti _).mono ?_
                rintro e w' ⟨rfl, rfl⟩
                go_wp2_with fail
                refine (hlo _).mono ?_
                rintro e w' ⟨rfl, rfl⟩
                go_wp2_with fail
                refine (hha _ hown.read).mono ?_
                rintro e w' ⟨rfl, rfl⟩
                go_wp2_with fail
                refine (hlo _).mono ?_
                rintro e w' ⟨rfl, rfl⟩
                go_wp2_with (at_builtin; refine wpList_app encL sl_strT [lp] rfl _ _ rfl rfl hown #[S lp] rfl 0 rfl rfl (by omega) (by simp only [maxLen]; omega) hbs ?_; intro g' c' w5 hown5 hg5 hb5 hbg5)
                go_roundw
                case rel => exact ⟨k + 1, out ++ [lp], _, _, by go_num, by rw [Hstar.out, Hps.out]; rfl, by simp, by omega, by simp; omega, Lib.hid Hns.out.symm, Hall, hown5, hbel.trans hb5⟩
                case measure => simp [intOf]; omega
            · have Hns := Lib.hid (hns.trans (addN_old hps hold))
              rw [hold] at hha
              clear hns hold
              generalize hlw : lowL p = lp at *
              clear hlw
              cases st0
              all_goals
                go_wp2_with fail
                refine (hti _).mono ?_
                rintro e w' ⟨rfl, rfl⟩
                go_wp2_with fail
                refine (hlo _).mono ?_
                rintro e w' ⟨rfl, rfl⟩
                go_wp2_with fail
                refine (hha _ hown.read).mono ?_
                rintro e w' ⟨rfl, rfl⟩
                go_wp2_with fail
                go_roundw
                case rel => exact ⟨k + 1, out, _, _, by go_num, by rw [Hstar.out, Hps.out]; rfl, rfl, by omega, by omega, Lib.hid Hns.out.symm, Hall, hown, hbel⟩
                case measure => simp [intOf]; omega
          · have Hps := Lib.hid hps
            have Hns := Lib.hid (hns.trans (addN_star hps))
            have hps2 : p = [42] := by simpa using hps
            subst hps2
            clear hps hns
            cases st0
            all_goals
              go_wp2_with fail
              refine (hti _).mono ?_
              rintro e w' ⟨rfl, rfl⟩
              go_wp2_with fail
              go_roundw
              case rel => exact ⟨k + 1, out, _, _, by go_num, by rw [Hstar.out, Hps.out]; rfl, rfl, by omega, by omega, Lib.hid Hns.out.symm, Hall, hown, hbel⟩
              case measure => simp [intOf]; omega
      · obtain rfl : k = ps.length := by omega
        have hal := hall.out
        have hnm2 := hnm.out
        rw [List.take_length] at hal hnm2 ⊢
        have HR2 := Lib.hid (show R = .ok (sortL out, ps.any fun p => p == [42]) from by rw [← HR.out, hnm2]; exact varyE_ok Hs.out hal)
        have hst := w_sorted out (by omega) A3 c3 wr hown.read
        generalize (ps.any fun p => p == [42]) = star at *
        generalize sortL out = srt at *
        clear hal hnm2 hnm hall htx
        go_wp2_with fail
        refine hst.mono ?_
        rintro e w7 ⟨⟨A7, c7, rfl, hown7⟩, hb7⟩
        go_wp2_with fail
        go_ret3
        exact vyPost_ok HR2.out rfl hown7.read (hB2.trans ((hbel.trans (hb7.mono hbs)).mono hB2.size))
end
end Go.Proofs.Ytmhhjmncbclihaa

namespace Go.Proofs.Ytmhhjmncbclihaa
section
open Go.RowKit Go.Larder
set_option linter.unusedVariables false
set_option linter.unusedSimpArgs false
def diffB (a b : List Fld) (n : List UInt8) : Bool := !((!(valsL (lowL n) a).isEmpty) == (!(valsL (lowL n) b).isEmpty)) || !(Lib.join (valsL (lowL n) a) sepL == Lib.join (valsL (lowL n) b) sepL)
theorem matchGo_eq (a b : List Fld) (ns : List (List UInt8)) (star : Bool) : matchGo a b ns star = (star || ns.any (diffB a b)) := rfl
theorem varyE_bound {s : List UInt8} {ns : List (List UInt8)} {st : Bool} (h : varyE s = .ok (ns, st)) : ns.length ≤ 20 ∧ ∀ x ∈ ns, x.length ≤ 1000 := by
  cases hs : splitE s with
  | error n => rw [varyE_err hs] at h; cases h
  | ok ps =>
    cases ht : ps.all isTok
    · rw [varyE_bad hs ht] at h; cases h
    · rw [varyE_ok hs ht] at h
      injection h with h
      injection h with h _
      subst h
      have h20 := splitE_ok hs
      have htx := splitE_text hs
      have hln := names_len ps
      refine ⟨by rw [sortL_len]; omega, fun x hx => names_memlen ps 1000 htx x ((sortL_perm _).mem_iff.1 hx)⟩
theorem vyPost_err {w w' : World} {r : Except Int (List (List UInt8) × Bool)} {e : Ending} {n : Int} (h : VyPost w r e w') (hr : r = .error n) : ∃ A c, e = .returned (.tuple #[.slice A 0 c, .bool false, .int .i64 n]) ∧ Below w.heap.size w w' := by
  subst hr
  obtain ⟨A, c, h1, _, h2⟩ := h
  exact ⟨A, c, h1, h2⟩
theorem vyPost_yes {w w' : World} {r : Except Int (List (List UInt8) × Bool)} {e : Ending} {ns : List (List UInt8)} {st : Bool} (h : VyPost w r e w') (hr : r = .ok (ns, st)) : ∃ A c, e = .returned (.tuple #[.slice A ns.length c, .bool st, .int .i64 0]) ∧ ReadL encL w' w'.heap.size A ns ∧ Below w.heap.size w w' := by
  subst hr
  exact h
theorem varyE_pos {s : List UInt8} {n : Int} (h : varyE s = .error n) : (n == 0) = false := by
  cases hs : splitE s with
  | error m => rw [varyE_err hs] at h; injection h with h; subst h; exact splitE_pos hs
  | ok ps =>
    cases ht : ps.all isTok
    · rw [varyE_bad hs ht] at h; injection h with h; subst h; rfl
    · rw [varyE_ok hs ht] at h; cases h
theorem matchE_err {l a b : List Fld} {n : Int} (h : varyE (Lib.join (valsL (lowL varyN) l) sepL) = .error n) : matchE l a b = (false, n) := by unfold matchE; rw [h]
theorem matchE_ok {l a b : List Fld} {ns : List (List UInt8)} {st : Bool} (h : varyE (Lib.join (valsL (lowL varyN) l) sepL) = .ok (ns, st)) : matchE l a b = (!(st || ns.any (diffB a b)), 0) := by unfold matchE; rw [h]; rfl
set_option maxHeartbeats 4000000 in
set_option maxRecDepth 100000 in
theorem w_Match (l a b : List Fld) (hj : (l.map (fun f => f.1.length + f.2.length + 3)).sum ≤ 1048576) (hja : (a.map (fun f => f.1.length + f.2.length + 3)).sum ≤ 1048576) (hjb : (b.map (fun f => f.1.length + f.2.length + 3)).sum ≤ 1048576) (A : Option Addr) (c : Nat) (A1 : Option Addr) (c1 : Nat) (A2 : Option Addr) (c2 : Nat) (w : World) (hr : ReadL encF w w.heap.size A l) (hra : ReadL encF w w.heap.size A1 a) (hrb : ReadL encF w w.heap.size A2 b) :
    Calls Try.prog 42 #[.slice A l.length c, .slice A1 a.length c1, .slice A2 b.length c2] w fun e w' => e = .returned (.tuple #[.bool (matchE l a b).1, .int .i64 (matchE l a b).2]) ∧ Below w.heap.size w w' := by
  have hn := w_Names l hj A c w hr
  obtain ⟨r, hrr⟩ : ∃ r, varyE (Lib.join (valsL (lowL varyN) l) sepL) = r := ⟨_, rfl⟩
  rw [hrr] at hn
  cases r with
  | error n =>
    have hp := varyE_pos hrr
    have HR := Lib.hid (matchE_err (a := a) (b := b) hrr)
    clear hrr
    go_enter Try.func42, Try.ntmps42
    go_wp2_with fail
    refine hn.mono ?_
    intro e w1 h1
    obtain ⟨A3, c3, rfl, hb1⟩ := vyPost_err h1 rfl
    clear h1
    go_wp2_with fail
    go_ret2
    rw [HR.out]
    exact ⟨rfl, hb1⟩
  | ok p =>
    obtain ⟨ns, st⟩ := p
    obtain ⟨hnl, hnm⟩ := varyE_bound hrr
    have HR := Lib.hid (matchE_ok (a := a) (b := b) hrr)
    clear hrr
    have hgA := fun (x : List UInt8) (hx : x.length ≤ 1000) (W : World) (hW : Below w.heap.size w W) => w_GetS x hx a hja A1 c1 W ((hra.below hW (Nat.le_refl _)).more hW.size)
    have hgB := fun (x : List UInt8) (hx : x.length ≤ 1000) (W : World) (hW : Below w.heap.size w W) => w_GetS x hx b hjb A2 c2 W ((hrb.below hW (Nat.le_refl _)).more hW.size)
    go_enter Try.func42, Try.ntmps42
    go_wp2_with fail
    refine hn.mono ?_
    intro e w1 h1
    obtain ⟨A3, c3, rfl, hr3, hb1⟩ := vyPost_yes h1 rfl
    clear h1
    go_wp2_with fail
    go_loopw [9, 28] (fun s' i' wr => ∃ (k : Nat), i' = .int .i64 k ∧ s' = .bool (st || (ns.take k).any (diffB a b)) ∧ k ≤ ns.length ∧ Below w1.heap.size w1 wr) (fun _ i' _ => ns.length - (intOf i').toNat)
    case atStart => exact ⟨0, rfl, by simp, by omega, Below.refl _ _⟩
    case round =>
      obtain ⟨k, rfl, rfl, hk, hbel⟩ := hrel
      have hbs := hbel.size
      have hbel2 : Below w.heap.size w wr := hb1.trans (hbel.mono hb1.size)
      by_cases hlt : k < ns.length
      · obtain ⟨x, hx, hd⟩ := drop_step hlt
        obtain ⟨g, off, rfl, hgb, hc0⟩ := (hr3.below hbel (Nat.le_refl _)).at_S hx
        have hstep := any_step (p := diffB a b) hx
        have hxl := hnm x (List.mem_of_getElem? hx)
        have hga := fun W hW => hgA x hxl W hW
        have hgb2 := fun W hW => hgB x hxl W hW
        have hdf : diffB a b x = (!((!(valsL (lowL x) a).isEmpty) == (!(valsL (lowL x) b).isEmpty)) || !(Lib.join (valsL (lowL x) a) sepL == Lib.join (valsL (lowL x) b) sepL)) := rfl
        rw [hdf] at hstep
        clear hx hd hdf
        generalize (!(valsL (lowL x) a).isEmpty) = b1 at *
        generalize (!(valsL (lowL x) b).isEmpty) = b2 at *
        generalize Lib.join (valsL (lowL x) a) sepL = x1 at *
        generalize Lib.join (valsL (lowL x) b) sepL = x2 at *
        generalize ((ns.take k).any (diffB a b)) = s0 at *
        have hga := hga wr hbel2
        cases hxy : (x1 == x2)
        all_goals
          rw [hxy] at hstep
          have Hstep := Lib.hid hstep
          clear hstep
          cases b1 <;> cases b2 <;> cases st <;> cases s0
          all_goals
            go_wp2_with fail
            refine hga.mono ?_
            rintro e w3 ⟨rfl, hb3⟩
            go_wp2_with fail
            refine (hgb2 _ (hbel2.trans (hb3.mono hbel2.size))).mono ?_
            rintro e w4 ⟨rfl, hb4⟩
            go_wp2_with fail
            go_roundw
            case rel => exact ⟨k + 1, by go_num, by rw [Hstep.out]; rfl, by omega, (hbel.trans (hb3.mono hbs)).trans (hb4.mono (Nat.le_trans hbs hb3.size))⟩
            case measure => simp [intOf]; omega
      · obtain rfl : k = ns.length := by omega
        rw [List.take_length]
        generalize (ns.any (diffB a b)) = s0 at *
        go_wp2_with fail
        go_ret2
        rw [HR.out]
        exact ⟨by simp, hb1.trans (hbel.mono hb1.size)⟩
end
end Go.Proofs.Ytmhhjmncbclihaa

namespace Go.Proofs.Ytmhhjmncbclihaa
section
open Go.RowKit Go.Larder
set_option linter.unusedVariables false
set_option linter.unusedSimpArgs false
theorem w_directivesP (l : List Fld) (hj : (l.map (fun f => f.1.length + f.2.length + 3)).sum ≤ 1048576) (A : Option Addr) (c : Nat) (w : World) (hr : ReadL encF w w.heap.size A l) :
    Calls Try.prog 85 #[.slice A l.length c] w (fun e w' => ∃ A' c', e = .returned (.slice A' (dirsE l).length c') ∧ ReadL encD w' w'.heap.size A' (dirsE l) ∧ Below w.heap.size w w') := by
  have hg := w_GetS ccN (by decide) l hj A c w hr
  have hjl := join_ok (nm := lowL ccN) hj
  have hp := fun W => w_CtlParse (Lib.join (valsL (lowL ccN) l) sepL) (by omega) W
  have hq := fun {W e W'} => dirs_post (l := l) (w := W) (e := e) (w' := W')
  generalize Lib.join (valsL (lowL ccN) l) sepL = s at *
  generalize (valsL (lowL ccN) l).isEmpty = b at *
  generalize dirsE l = D at *
  go_enter Try.func85, Try.ntmps85
  go_wp2_with fail
  refine hg.mono ?_
  rintro e w1 ⟨rfl, hb1⟩
  go_wp2_with fail
  refine (hp _).mono ?_
  intro e w2 hpost
  obtain ⟨A2, c2, n2, rfl, hr2, hb2⟩ := hq hpost
  clear hpost hq hp hg
  have Hr2 := Lib.hid hr2
  clear hr2
  go_wp2_with fail
  go_ret
  exact ⟨A2, c2, rfl, Hr2.out, hb1.trans (hb2.mono hb1.size)⟩

theorem w_has1 (D : List Dir) (hl : D.length ≤ 1000) (A : Option Addr) (c b : Nat) (x : List UInt8) (w : World) (hbx : BoxAt w b 129 [.slice A D.length c]) (hr : ReadL encD w w.heap.size A D) :
    Calls Try.prog 113 #[S x, .pointer (some ⟨b, 0, none⟩)] w (fun e w' => e = .returned (.bool (findD x D).2) ∧ Below w.heap.size w w') := by
  have hh := w_Has x D (by omega) A c w hr
  have q := hbx.cell (j := 0) rfl
  generalize (findD x D).2 = v at *
  go_enter Try.func113, Try.ntmps113
  go_wp2_with (go_at_call 114; refine hh.mono ?_; rintro e w1 ⟨rfl, hb⟩)
  go_ret
  exact ⟨rfl, hb⟩
theorem w_there1 (l : List Fld) (hj : (l.map (fun f => f.1.length + f.2.length + 3)).sum ≤ 1048576) (A : Option Addr) (c b : Nat) (x : List UInt8) (hx : x.length ≤ 1000) (w : World) (hbx : BoxAt w b 41 [.slice A l.length c]) (hr : ReadL encF w w.heap.size A l) :
    Calls Try.prog 115 #[S x, .pointer (some ⟨b, 0, none⟩)] w (fun e w' => e = .returned (.bool (!(valsL (lowL x) l).isEmpty)) ∧ Below w.heap.size w w') := by
  have hh := w_GetS x hx l hj A c w hr
  have q := hbx.cell (j := 0) rfl
  generalize (!(valsL (lowL x) l).isEmpty) = v at *
  generalize Lib.join (valsL (lowL x) l) sepL = s at *
  go_enter Try.func115, Try.ntmps115
  go_wp2_with (go_at_call 76; refine hh.mono ?_; rintro e w1 ⟨rfl, hb⟩)
  go_ret
  exact ⟨rfl, hb⟩

set_option maxHeartbeats 2000000 in
theorem w_ixHas (D : List Dir) (hl : D.length ≤ 1000) (A : Option Addr) (c : Nat) (ns : List (List UInt8)) (hns : ns.length ≤ 1000) (hnl : ∀ n ∈ ns, n.length ≤ 1000) (A' : Option Addr) (c' b : Nat) (w : World) (hbx : BoxAt w b 129 [.slice A D.length c]) (hr : ReadL encD w w.heap.size A D) (hr' : ReadL encL w w.heap.size A' ns) :
    Calls Try.prog 133 #[.slice A' ns.length c', .func (.func 113) #[] #[.pointer (some ⟨b, 0, none⟩)]] w (fun e w' => (∃ n : Int, e = .returned (.int .i64 n) ∧ decide (0 ≤ n) = ns.any fun x => (findD x D).2) ∧ Below w.heap.size w w') := by
  go_enter Try.func133, Try.ntmps133
  go_wp2_with fail
  go_loopw [8] (fun i' wr => ∃ k : Nat, i' = .int .i64 k ∧ k ≤ ns.length ∧ Hid (((ns.drop k).any fun x => (findD x D).2) = ns.any fun x => (findD x D).2) ∧ Below w.heap.size w wr) (fun i' _ => ns.length - (intOf i').toNat)
  case atStart => exact ⟨0, rfl, by omega, Lib.hid rfl, Below.refl _ _⟩
  case round =>
    obtain ⟨k, rfl, hk, heq, hbel⟩ := hrel
    have hbs := hbel.size
    by_cases hlt : k < ns.length
    · obtain ⟨x, hx, hs⟩ := drop_step hlt
      obtain ⟨g, off, rfl, hgb, hc0⟩ := (hr'.below hbel (Nat.le_refl _)).at_S hx
      have hxl := hnl x (List.mem_of_getElem? hx)
      have heq2 := heq.out
      rw [hs, List.any_cons] at heq2
      clear hs hx
      have hcl := fun (W : World) (hW : Below w.heap.size w W) => w_has1 D hl A c b x W (hbx.keep hW) ((hr.below hW (Nat.le_refl _)).more hW.size)
      generalize hv : ((findD x D).2) = v at *
      cases v
      · have Heq := Lib.hid heq2; clear heq2 hv
        go_wp2_with (go_at_call 113; refine (hcl wr hbel).mono ?_; rintro e w2 ⟨rfl, hb2⟩)
        go_roundw
        case rel => exact ⟨k + 1, by go_num, by omega, Lib.hid (by rw [← Heq.out]; rfl), hbel.trans (hb2.mono hbs)⟩
        case measure => simp [intOf]; omega
      · have Heq := Lib.hid heq2; clear heq2 hv
        go_wp2_with (go_at_call 113; refine (hcl wr hbel).mono ?_; rintro e w2 ⟨rfl, hb2⟩)
        go_ret
        exact ⟨⟨k, rfl, by rw [← Heq.out]; simp⟩, hbel.trans (hb2.mono hbs)⟩
    · have heq2 := heq.out
      rw [drop_end hlt] at heq2
      have Heq := Lib.hid heq2; clear heq2
      go_wp2_with fail
      go_ret
      exact ⟨⟨-1, rfl, by rw [← Heq.out]; rfl⟩, hbel⟩
theorem w_cfHas (D : List Dir) (hl : D.length ≤ 1000) (A : Option Addr) (c : Nat) (ns : List (List UInt8)) (hns : ns.length ≤ 1000) (hnl : ∀ n ∈ ns, n.length ≤ 1000) (A' : Option Addr) (c' b : Nat) (w : World) (hbx : BoxAt w b 129 [.slice A D.length c]) (hr : ReadL encD w w.heap.size A D) (hr' : ReadL encL w w.heap.size A' ns) :
    Calls Try.prog 112 #[.slice A' ns.length c', .func (.func 113) #[] #[.pointer (some ⟨b, 0, none⟩)]] w (fun e w' => e = .returned (.bool (ns.any fun x => (findD x D).2)) ∧ Below w.heap.size w w') := by
  have h := w_ixHas D hl A c ns hns hnl A' c' b w hbx hr hr'
  generalize (ns.any fun x => (findD x D).2) = v at *
  go_enter Try.func112, Try.ntmps112
  go_wp2_with fail
  refine h.mono ?_
  rintro e w1 ⟨⟨n, rfl, hn⟩, hb⟩
  go_wp2_with fail
  go_ret
  exact ⟨by rw [← hn]; rfl, hb⟩

set_option maxHeartbeats 2000000 in
theorem w_ixThere (l : List Fld) (hj : (l.map (fun f => f.1.length + f.2.length + 3)).sum ≤ 1048576) (A : Option Addr) (c : Nat) (ns : List (List UInt8)) (hns : ns.length ≤ 1000) (hnl : ∀ n ∈ ns, n.length ≤ 1000) (A' : Option Addr) (c' b : Nat) (w : World) (hbx : BoxAt w b 41 [.slice A l.length c]) (hr : ReadL encF w w.heap.size A l) (hr' : ReadL encL w w.heap.size A' ns) :
    Calls Try.prog 133 #[.slice A' ns.length c', .func (.func 115) #[] #[.pointer (some ⟨b, 0, none⟩)]] w (fun e w' => (∃ n : Int, e = .returned (.int .i64 n) ∧ decide (0 ≤ n) = ns.any fun x => (!(valsL (lowL x) l).isEmpty)) ∧ Below w.heap.size w w') := by
  go_enter Try.func133, Try.ntmps133
  go_wp2_with fail
  go_loopw [8] (fun i' wr => ∃ k : Nat, i' = .int .i64 k ∧ k ≤ ns.length ∧ Hid (((ns.drop k).any fun x => (!(valsL (lowL x) l).isEmpty)) = ns.any fun x => (!(valsL (lowL x) l).isEmpty)) ∧ Below w.heap.size w wr) (fun i' _ => ns.length - (intOf i').toNat)
  case atStart => exact ⟨0, rfl, by omega, Lib.hid rfl, Below.refl _ _⟩
  case round =>
    obtain ⟨k, rfl, hk, heq, hbel⟩ := hrel
    have hbs := hbel.size
    by_cases hlt : k < ns.length
    · obtain ⟨x, hx, hs⟩ := drop_step hlt
      obtain ⟨g, off, rfl, hgb, hc0⟩ := (hr'.below hbel (Nat.le_refl _)).at_S hx
      have hxl := hnl x (List.mem_of_getElem? hx)
      have heq2 := heq.out
      rw [hs, List.any_cons] at heq2
      clear hs hx
      have hcl := fun (W : World) (hW : Below w.heap.size w W) => w_there1 l hj A c b x hxl W (hbx.keep hW) ((hr.below hW (Nat.le_refl _)).more hW.size)
      generalize hv : ((!(valsL (lowL x) l).isEmpty)) = v at *
      cases v
      · have Heq := Lib.hid heq2; clear heq2 hv
        go_wp2_with (go_at_call 115; refine (hcl wr hbel).mono ?_; rintro e w2 ⟨rfl, hb2⟩)
        go_roundw
        case rel => exact ⟨k + 1, by go_num, by omega, Lib.hid (by rw [← Heq.out]; rfl), hbel.trans (hb2.mono hbs)⟩
        case measure => simp [intOf]; omega
      · have Heq := Lib.hid heq2; clear heq2 hv
        go_wp2_with (go_at_call 115; refine (hcl wr hbel).mono ?_; rintro e w2 ⟨rfl, hb2⟩)
        go_ret
        exact ⟨⟨k, rfl, by rw [← Heq.out]; simp⟩, hbel.trans (hb2.mono hbs)⟩
    · have heq2 := heq.out
      rw [drop_end hlt] at heq2
      have Heq := Lib.hid heq2; clear heq2
      go_wp2_with fail
      go_ret
      exact ⟨⟨-1, rfl, by rw [← Heq.out]; rfl⟩, hbel⟩
theorem w_cfThere (l : List Fld) (hj : (l.map (fun f => f.1.length + f.2.length + 3)).sum ≤ 1048576) (A : Option Addr) (c : Nat) (ns : List (List UInt8)) (hns : ns.length ≤ 1000) (hnl : ∀ n ∈ ns, n.length ≤ 1000) (A' : Option Addr) (c' b : Nat) (w : World) (hbx : BoxAt w b 41 [.slice A l.length c]) (hr : ReadL encF w w.heap.size A l) (hr' : ReadL encL w w.heap.size A' ns) :
    Calls Try.prog 112 #[.slice A' ns.length c', .func (.func 115) #[] #[.pointer (some ⟨b, 0, none⟩)]] w (fun e w' => e = .returned (.bool (ns.any fun x => (!(valsL (lowL x) l).isEmpty))) ∧ Below w.heap.size w w') := by
  have h := w_ixThere l hj A c ns hns hnl A' c' b w hbx hr hr'
  generalize (ns.any fun x => (!(valsL (lowL x) l).isEmpty)) = v at *
  go_enter Try.func112, Try.ntmps112
  go_wp2_with fail
  refine h.mono ?_
  rintro e w1 ⟨⟨n, rfl, hn⟩, hb⟩
  go_wp2_with fail
  go_ret
  exact ⟨by rw [← hn]; rfl, hb⟩
theorem w_pHas (D : List Dir) (hl : D.length ≤ 1000) (A : Option Addr) (c : Nat) (ns : List (List UInt8)) (hns : ns.length ≤ 1000) (hnl : ∀ n ∈ ns, n.length ≤ 1000) (A' : Option Addr) (c' : Nat) (w : World) (hr : ReadL encD w w.heap.size A D) (hr' : ReadL encL w w.heap.size A' ns) :
    Calls Try.prog 87 #[.slice A D.length c, .slice A' ns.length c'] w (fun e w' => e = .returned (.bool (ns.any fun x => (findD x D).2)) ∧ Below w.heap.size w w') := by
  have hbx := BoxAt.new w [.slice A D.length c] 129
  have hB : Below w.heap.size w (w.alloc (.cells #[.slice A D.length c] 129)) := (Below.refl _ _).alloc (Nat.le_refl _) _
  have h := w_cfHas D hl A c ns hns hnl A' c' w.heap.size _ hbx ((hr.below hB (Nat.le_refl _)).more hB.size) ((hr'.below hB (Nat.le_refl _)).more hB.size)
  generalize (ns.any fun x => (findD x D).2) = v at *
  go_enter Try.func87, Try.ntmps87
  go_wp2_with (go_at_call 112; refine h.mono ?_; rintro e w1 ⟨rfl, hb⟩)
  go_ret
  exact ⟨rfl, hB.trans (hb.mono hB.size)⟩
theorem w_pThere (l : List Fld) (hj : (l.map (fun f => f.1.length + f.2.length + 3)).sum ≤ 1048576) (A : Option Addr) (c : Nat) (ns : List (List UInt8)) (hns : ns.length ≤ 1000) (hnl : ∀ n ∈ ns, n.length ≤ 1000) (A' : Option Addr) (c' : Nat) (w : World) (hr : ReadL encF w w.heap.size A l) (hr' : ReadL encL w w.heap.size A' ns) :
    Calls Try.prog 88 #[.slice A l.length c, .slice A' ns.length c'] w (fun e w' => e = .returned (.bool (ns.any fun x => (!(valsL (lowL x) l).isEmpty))) ∧ Below w.heap.size w w') := by
  have hbx := BoxAt.new w [.slice A l.length c] 41
  have hB : Below w.heap.size w (w.alloc (.cells #[.slice A l.length c] 41)) := (Below.refl _ _).alloc (Nat.le_refl _) _
  have h := w_cfThere l hj A c ns hns hnl A' c' w.heap.size _ hbx ((hr.below hB (Nat.le_refl _)).more hB.size) ((hr'.below hB (Nat.le_refl _)).more hB.size)
  generalize (ns.any fun x => (!(valsL (lowL x) l).isEmpty)) = v at *
  go_enter Try.func88, Try.ntmps88
  go_wp2_with (go_at_call 112; refine h.mono ?_; rintro e w1 ⟨rfl, hb⟩)
  go_ret
  exact ⟨rfl, hB.trans (hb.mono hB.size)⟩
end
end Go.Proofs.Ytmhhjmncbclihaa

namespace Go.Proofs.Ytmhhjmncbclihaa
section
open Go.RowKit Go.Larder
set_option linter.unusedVariables false
set_option linter.unusedSimpArgs false
theorem w_IxI (x : Int) (l : List Int) (hl : l.length ≤ 1000) (A : Option Addr) (c B : Nat) (w : World) (hr : ReadL Go.Larder.encI w B A l) :
    Calls Try.prog 111 #[.slice A l.length c, .int .i64 x] w (fun e w' => (∃ n : Int, e = .returned (.int .i64 n) ∧ decide (0 ≤ n) = l.any fun y => x == y) ∧ w = w') := by
  go_enter Try.func111, Try.ntmps111
  go_wp2_with fail
  go_loop [8] (fun i' => ∃ k : Nat, i' = .int .i64 k ∧ k ≤ l.length ∧ Hid (((l.drop k).any fun y => x == y) = (l.any fun y => x == y))) (fun i' => l.length - (intOf i').toNat)
  case atStart => exact ⟨0, rfl, by omega, Lib.hid rfl⟩
  case round =>
    obtain ⟨k, rfl, hk, heq⟩ := hrel
    have heq2 := heq.out
    by_cases hlt : k < l.length
    · obtain ⟨y, hy, hs⟩ := drop_step hlt
      obtain ⟨g, off, rfl, hgb, hc0⟩ := hr.at_I hy
      rw [hs, List.any_cons] at heq2
      clear hs hy
      cases hw : (x == y)
      · rw [hw] at heq2
        have Heq := Lib.hid heq2; clear heq2
        go_wp2_with fail
        go_round
        case rel => exact ⟨k + 1, by go_num, by omega, Lib.hid (by rw [← Heq.out]; rfl)⟩
        case measure => simp [intOf]; omega
      · rw [hw] at heq2
        have Heq := Lib.hid heq2; clear heq2
        go_wp2_with fail
        go_ret
        exact ⟨⟨k, rfl, by rw [← Heq.out]; simp⟩, rfl⟩
    · rw [drop_end hlt] at heq2
      have Heq := Lib.hid heq2; clear heq2
      go_wp2_with fail
      go_ret
      exact ⟨⟨-1, rfl, by rw [← Heq.out]; rfl⟩, rfl⟩
theorem w_CtnI (x : Int) (l : List Int) (hl : l.length ≤ 1000) (A : Option Addr) (c B : Nat) (w : World) (hr : ReadL Go.Larder.encI w B A l) :
    Calls Try.prog 86 #[.slice A l.length c, .int .i64 x] w (fun e w' => e = .returned (.bool (l.any fun y => x == y)) ∧ w = w') := by
  have h := w_IxI x l hl A c B w hr
  generalize (l.any fun y => x == y) = v at *
  go_enter Try.func86, Try.ntmps86
  go_wp2_with fail
  refine h.mono ?_
  rintro e w1 ⟨⟨n, rfl, hn⟩, rfl⟩
  go_wp2_with fail
  go_ret
  exact ⟨by rw [← hn]; rfl, rfl⟩
def badB : Except Int (List (List UInt8) × Bool) → Bool
  | .error _ => true
  | .ok (_, st) => st
theorem vy_any {w w' : World} {r : Except Int (List (List UInt8) × Bool)} {e : Ending} (h : VyPost w r e w') (hp : ∀ n, r = .error n → (n == 0) = false) : ∃ A k c st en, e = .returned (.tuple #[.slice A k c, .bool st, .int .i64 en]) ∧ (st || !(en == 0)) = badB r ∧ Below w.heap.size w w' := by
  cases r with
  | error n =>
    obtain ⟨A, c, rfl, hb⟩ := vyPost_err h rfl
    exact ⟨A, 0, c, false, n, rfl, by rw [hp n rfl]; rfl, hb⟩
  | ok p =>
    obtain ⟨ns, st⟩ := p
    obtain ⟨A, c, rfl, _, hb⟩ := vyPost_yes h rfl
    exact ⟨A, ns.length, c, st, 0, rfl, by simp [badB], hb⟩
def mayB (G C h1 h2 a h4 bad h5 t6 : Bool) : Bool := G && C && !h1 && !h2 && !(a && !h4) && !bad && (h5 || t6)
def thereB (ns : List (List UInt8)) (l : List Fld) : Bool := ns.any fun x => !(valsL (lowL x) l).isEmpty
theorem hl_ns (D : List Dir) (hl : D.length ≤ 1000) (A : Option Addr) (c : Nat) (w : World) (hr : ReadL encD w w.heap.size A D) :
    Calls Try.prog 87 #[.slice A D.length c, .slice (some ⟨w.heap.size, 0, none⟩) 1 1] (w.alloc (.cells #[S [110, 111, 45, 115, 116, 111, 114, 101]] 9)) (fun e w' => e = .returned (.bool (someD [[110, 111, 45, 115, 116, 111, 114, 101]] D)) ∧ Below w.heap.size w w') := by
  have hB : Below w.heap.size w (w.alloc (.cells #[S [110, 111, 45, 115, 116, 111, 114, 101]] 9)) := (Below.refl _ _).alloc (Nat.le_refl _) _
  have h := w_pHas D hl A c [[110, 111, 45, 115, 116, 111, 114, 101]] (by decide) (by decide) (some ⟨w.heap.size, 0, none⟩) 1 (w.alloc (.cells #[S [110, 111, 45, 115, 116, 111, 114, 101]] 9)) ((hr.below hB (Nat.le_refl _)).more hB.size) ((ReadL.lit (E := encL) w #[S [110, 111, 45, 115, 116, 111, 114, 101]] 9 [[110, 111, 45, 115, 116, 111, 114, 101]] rfl).more (by simp))
  exact h.mono fun e w' ⟨h1, h2⟩ => ⟨h1, hB.trans (h2.mono hB.size)⟩
theorem hl_np (D : List Dir) (hl : D.length ≤ 1000) (A : Option Addr) (c : Nat) (w : World) (hr : ReadL encD w w.heap.size A D) :
    Calls Try.prog 87 #[.slice A D.length c, .slice (some ⟨w.heap.size, 0, none⟩) 2 2] (w.alloc (.cells #[S [110, 111, 45, 115, 116, 111, 114, 101], S [112, 114, 105, 118, 97, 116, 101]] 9)) (fun e w' => e = .returned (.bool (someD [[110, 111, 45, 115, 116, 111, 114, 101], [112, 114, 105, 118, 97, 116, 101]] D)) ∧ Below w.heap.size w w') := by
  have hB : Below w.heap.size w (w.alloc (.cells #[S [110, 111, 45, 115, 116, 111, 114, 101], S [112, 114, 105, 118, 97, 116, 101]] 9)) := (Below.refl _ _).alloc (Nat.le_refl _) _
  have h := w_pHas D hl A c [[110, 111, 45, 115, 116, 111, 114, 101], [112, 114, 105, 118, 97, 116, 101]] (by decide) (by decide) (some ⟨w.heap.size, 0, none⟩) 2 (w.alloc (.cells #[S [110, 111, 45, 115, 116, 111, 114, 101], S [112, 114, 105, 118, 97, 116, 101]] 9)) ((hr.below hB (Nat.le_refl _)).more hB.size) ((ReadL.lit (E := encL) w #[S [110, 111, 45, 115, 116, 111, 114, 101], S [112, 114, 105, 118, 97, 116, 101]] 9 [[110, 111, 45, 115, 116, 111, 114, 101], [112, 114, 105, 118, 97, 116, 101]] rfl).more (by simp))
  exact h.mono fun e w' ⟨h1, h2⟩ => ⟨h1, hB.trans (h2.mono hB.size)⟩
theorem hl_mr (D : List Dir) (hl : D.length ≤ 1000) (A : Option Addr) (c : Nat) (w : World) (hr : ReadL encD w w.heap.size A D) :
    Calls Try.prog 87 #[.slice A D.length c, .slice (some ⟨w.heap.size, 0, none⟩) 3 3] (w.alloc (.cells #[S [109, 117, 115, 116, 45, 114, 101, 118, 97, 108, 105, 100, 97, 116, 101], S [112, 117, 98, 108, 105, 99], S [115, 45, 109, 97, 120, 97, 103, 101]] 9)) (fun e w' => e = .returned (.bool (someD [[109, 117, 115, 116, 45, 114, 101, 118, 97, 108, 105, 100, 97, 116, 101], [112, 117, 98, 108, 105, 99], [115, 45, 109, 97, 120, 97, 103, 101]] D)) ∧ Below w.heap.size w w') := by
  have hB : Below w.heap.size w (w.alloc (.cells #[S [109, 117, 115, 116, 45, 114, 101, 118, 97, 108, 105, 100, 97, 116, 101], S [112, 117, 98, 108, 105, 99], S [115, 45, 109, 97, 120, 97, 103, 101]] 9)) := (Below.refl _ _).alloc (Nat.le_refl _) _
  have h := w_pHas D hl A c [[109, 117, 115, 116, 45, 114, 101, 118, 97, 108, 105, 100, 97, 116, 101], [112, 117, 98, 108, 105, 99], [115, 45, 109, 97, 120, 97, 103, 101]] (by decide) (by decide) (some ⟨w.heap.size, 0, none⟩) 3 (w.alloc (.cells #[S [109, 117, 115, 116, 45, 114, 101, 118, 97, 108, 105, 100, 97, 116, 101], S [112, 117, 98, 108, 105, 99], S [115, 45, 109, 97, 120, 97, 103, 101]] 9)) ((hr.below hB (Nat.le_refl _)).more hB.size) ((ReadL.lit (E := encL) w #[S [109, 117, 115, 116, 45, 114, 101, 118, 97, 108, 105, 100, 97, 116, 101], S [112, 117, 98, 108, 105, 99], S [115, 45, 109, 97, 120, 97, 103, 101]] 9 [[109, 117, 115, 116, 45, 114, 101, 118, 97, 108, 105, 100, 97, 116, 101], [112, 117, 98, 108, 105, 99], [115, 45, 109, 97, 120, 97, 103, 101]] rfl).more (by simp))
  exact h.mono fun e w' ⟨h1, h2⟩ => ⟨h1, hB.trans (h2.mono hB.size)⟩
theorem hl_pm (D : List Dir) (hl : D.length ≤ 1000) (A : Option Addr) (c : Nat) (w : World) (hr : ReadL encD w w.heap.size A D) :
    Calls Try.prog 87 #[.slice A D.length c, .slice (some ⟨w.heap.size, 0, none⟩) 3 3] (w.alloc (.cells #[S [112, 117, 98, 108, 105, 99], S [109, 97, 120, 45, 97, 103, 101], S [115, 45, 109, 97, 120, 97, 103, 101]] 9)) (fun e w' => e = .returned (.bool (someD [[112, 117, 98, 108, 105, 99], [109, 97, 120, 45, 97, 103, 101], [115, 45, 109, 97, 120, 97, 103, 101]] D)) ∧ Below w.heap.size w w') := by
  have hB : Below w.heap.size w (w.alloc (.cells #[S [112, 117, 98, 108, 105, 99], S [109, 97, 120, 45, 97, 103, 101], S [115, 45, 109, 97, 120, 97, 103, 101]] 9)) := (Below.refl _ _).alloc (Nat.le_refl _) _
  have h := w_pHas D hl A c [[112, 117, 98, 108, 105, 99], [109, 97, 120, 45, 97, 103, 101], [115, 45, 109, 97, 120, 97, 103, 101]] (by decide) (by decide) (some ⟨w.heap.size, 0, none⟩) 3 (w.alloc (.cells #[S [112, 117, 98, 108, 105, 99], S [109, 97, 120, 45, 97, 103, 101], S [115, 45, 109, 97, 120, 97, 103, 101]] 9)) ((hr.below hB (Nat.le_refl _)).more hB.size) ((ReadL.lit (E := encL) w #[S [112, 117, 98, 108, 105, 99], S [109, 97, 120, 45, 97, 103, 101], S [115, 45, 109, 97, 120, 97, 103, 101]] 9 [[112, 117, 98, 108, 105, 99], [109, 97, 120, 45, 97, 103, 101], [115, 45, 109, 97, 120, 97, 103, 101]] rfl).more (by simp))
  exact h.mono fun e w' ⟨h1, h2⟩ => ⟨h1, hB.trans (h2.mono hB.size)⟩
theorem tl_au (l : List Fld) (hj : (l.map (fun f => f.1.length + f.2.length + 3)).sum ≤ 1048576) (A : Option Addr) (c : Nat) (w : World) (hr : ReadL encF w w.heap.size A l) :
    Calls Try.prog 88 #[.slice A l.length c, .slice (some ⟨w.heap.size, 0, none⟩) 1 1] (w.alloc (.cells #[S [65, 117, 116, 104, 111, 114, 105, 122, 97, 116, 105, 111, 110]] 9)) (fun e w' => e = .returned (.bool (thereB [[65, 117, 116, 104, 111, 114, 105, 122, 97, 116, 105, 111, 110]] l)) ∧ Below w.heap.size w w') := by
  have hB : Below w.heap.size w (w.alloc (.cells #[S [65, 117, 116, 104, 111, 114, 105, 122, 97, 116, 105, 111, 110]] 9)) := (Below.refl _ _).alloc (Nat.le_refl _) _
  have h := w_pThere l hj A c [[65, 117, 116, 104, 111, 114, 105, 122, 97, 116, 105, 111, 110]] (by decide) (by decide) (some ⟨w.heap.size, 0, none⟩) 1 (w.alloc (.cells #[S [65, 117, 116, 104, 111, 114, 105, 122, 97, 116, 105, 111, 110]] 9)) ((hr.below hB (Nat.le_refl _)).more hB.size) ((ReadL.lit (E := encL) w #[S [65, 117, 116, 104, 111, 114, 105, 122, 97, 116, 105, 111, 110]] 9 [[65, 117, 116, 104, 111, 114, 105, 122, 97, 116, 105, 111, 110]] rfl).more (by simp))
  exact h.mono fun e w' ⟨h1, h2⟩ => ⟨h1, hB.trans (h2.mono hB.size)⟩
theorem tl_el (l : List Fld) (hj : (l.map (fun f => f.1.length + f.2.length + 3)).sum ≤ 1048576) (A : Option Addr) (c : Nat) (w : World) (hr : ReadL encF w w.heap.size A l) :
    Calls Try.prog 88 #[.slice A l.length c, .slice (some ⟨w.heap.size, 0, none⟩) 3 3] (w.alloc (.cells #[S [69, 120, 112, 105, 114, 101, 115], S [76, 97, 115, 116, 45, 77, 111, 100, 105, 102, 105, 101, 100], S [69, 84, 97, 103]] 9)) (fun e w' => e = .returned (.bool (thereB [[69, 120, 112, 105, 114, 101, 115], [76, 97, 115, 116, 45, 77, 111, 100, 105, 102, 105, 101, 100], [69, 84, 97, 103]] l)) ∧ Below w.heap.size w w') := by
  have hB : Below w.heap.size w (w.alloc (.cells #[S [69, 120, 112, 105, 114, 101, 115], S [76, 97, 115, 116, 45, 77, 111, 100, 105, 102, 105, 101, 100], S [69, 84, 97, 103]] 9)) := (Below.refl _ _).alloc (Nat.le_refl _) _
  have h := w_pThere l hj A c [[69, 120, 112, 105, 114, 101, 115], [76, 97, 115, 116, 45, 77, 111, 100, 105, 102, 105, 101, 100], [69, 84, 97, 103]] (by decide) (by decide) (some ⟨w.heap.size, 0, none⟩) 3 (w.alloc (.cells #[S [69, 120, 112, 105, 114, 101, 115], S [76, 97, 115, 116, 45, 77, 111, 100, 105, 102, 105, 101, 100], S [69, 84, 97, 103]] 9)) ((hr.below hB (Nat.le_refl _)).more hB.size) ((ReadL.lit (E := encL) w #[S [69, 120, 112, 105, 114, 101, 115], S [76, 97, 115, 116, 45, 77, 111, 100, 105, 102, 105, 101, 100], S [69, 84, 97, 103]] 9 [[69, 120, 112, 105, 114, 101, 115], [76, 97, 115, 116, 45, 77, 111, 100, 105, 102, 105, 101, 100], [69, 84, 97, 103]] rfl).more (by simp))
  exact h.mono fun e w' ⟨h1, h2⟩ => ⟨h1, hB.trans (h2.mono hB.size)⟩
end
end Go.Proofs.Ytmhhjmncbclihaa

namespace Go.Proofs.Ytmhhjmncbclihaa
section
open Go.RowKit Go.Larder
set_option linter.unusedVariables false
set_option linter.unusedSimpArgs false
theorem dirsE_len (l : List Fld) (hj : (l.map (fun f => f.1.length + f.2.length + 3)).sum ≤ 1048576) : (dirsE l).length ≤ 1000 := by have := (dirsE_bd l).1; omega
set_option maxHeartbeats 8000000 in
set_option maxRecDepth 100000 in
theorem w_MayStore (m : List UInt8) (hm : m.length ≤ 1048576) (tg : List UInt8) (A : Option Addr) (l : List Fld) (c : Nat) (hj : (l.map (fun f => f.1.length + f.2.length + 3)).sum ≤ 1048576) (bq : List UInt8) (code : Int) (rs : List UInt8) (A2 : Option Addr) (l2 : List Fld) (c2 : Nat) (hj2 : (l2.map (fun f => f.1.length + f.2.length + 3)).sum ≤ 1048576) (bp : List UInt8) (w : World) (hr : ReadL encF w w.heap.size A l) (hr2 : ReadL encF w w.heap.size A2 l2) :
    Calls Try.prog 44 #[.agg #[S m, S tg, .slice A l.length c, S bq], .agg #[.int .i64 code, S rs, .slice A2 l2.length c2, S bp]] w fun e w' => e = .returned (.bool (mayB (m == [71, 69, 84]) (codeB code) (someD [[110, 111, 45, 115, 116, 111, 114, 101]] (dirsE l)) (someD [[110, 111, 45, 115, 116, 111, 114, 101], [112, 114, 105, 118, 97, 116, 101]] (dirsE l2)) (thereB [[65, 117, 116, 104, 111, 114, 105, 122, 97, 116, 105, 111, 110]] l) (someD [[109, 117, 115, 116, 45, 114, 101, 118, 97, 108, 105, 100, 97, 116, 101], [112, 117, 98, 108, 105, 99], [115, 45, 109, 97, 120, 97, 103, 101]] (dirsE l2)) (badB (varyE (Lib.join (valsL (lowL varyN) l2) sepL))) (someD [[112, 117, 98, 108, 105, 99], [109, 97, 120, 45, 97, 103, 101], [115, 45, 109, 97, 120, 97, 103, 101]] (dirsE l2)) (thereB [[69, 120, 112, 105, 114, 101, 115], [76, 97, 115, 116, 45, 77, 111, 100, 105, 102, 105, 101, 100], [69, 84, 97, 103]] l2))) ∧ Below w.heap.size w w' := by
  have bq0 := (BoxAt.new w [S m, S tg, .slice A l.length c, S bq] 43).alloc (.cells #[.int .i64 code, S rs, .slice A2 l2.length c2, S bp] 45)
  have br0 := BoxAt.new (w.alloc (.cells #[S m, S tg, .slice A l.length c, S bq] 43)) [.int .i64 code, S rs, .slice A2 l2.length c2, S bp] 45
  rw [World.size_alloc] at br0
  have hB0 : Below w.heap.size w ((w.alloc (.cells #[S m, S tg, .slice A l.length c, S bq] 43)).alloc (.cells #[.int .i64 code, S rs, .slice A2 l2.length c2, S bp] 45)) := ((Below.refl _ _).alloc (Nat.le_refl _) _).alloc (by simp) _
  have hd1 := fun (W : World) (hW : Below w.heap.size w W) => w_directivesP l hj A c W ((hr.below hW (Nat.le_refl _)).more hW.size)
  have hd2 := fun (W : World) (hW : Below w.heap.size w W) => w_directivesP l2 hj2 A2 c2 W ((hr2.below hW (Nat.le_refl _)).more hW.size)
  have hvn := fun (W : World) (hW : Below w.heap.size w W) => w_Names l2 hj2 A2 c2 W ((hr2.below hW (Nat.le_refl _)).more hW.size)
  have hvp : ∀ n, varyE (Lib.join (valsL (lowL varyN) l2) sepL) = .error n → (n == 0) = false := fun n h => varyE_pos h
  have hD1 := dirsE_len l hj
  have hD2 := dirsE_len l2 hj2
  generalize varyE (Lib.join (valsL (lowL varyN) l2) sepL) = vr at *
  have hcl := fun (W : World) => w_CtnI code codesL (by decide) (some ⟨W.heap.size, 0, none⟩) 11 _ (W.alloc (.cells #[.int .i64 200, .int .i64 203, .int .i64 204, .int .i64 300, .int .i64 301, .int .i64 308, .int .i64 404, .int .i64 405, .int .i64 410, .int .i64 414, .int .i64 501] 3)) ((ReadL.lit (E := Go.Larder.encI) W #[.int .i64 200, .int .i64 203, .int .i64 204, .int .i64 300, .int .i64 301, .int .i64 308, .int .i64 404, .int .i64 405, .int .i64 410, .int .i64 414, .int .i64 501] 3 codesL rfl))
  have hcb : (codesL.any fun y => code == y) = codeB code := rfl
  have hl11 : codesL.length = 11 := rfl
  simp only [hcb, hl11] at hcl
  generalize codeB code = C at *
  have hh1 := fun A5 c5 W h => hl_ns (dirsE l) hD1 A5 c5 W h
  have hh2 := fun A6 c6 W h => hl_np (dirsE l2) hD2 A6 c6 W h
  have hh4 := fun A6 c6 W h => hl_mr (dirsE l2) hD2 A6 c6 W h
  have hh5 := fun A6 c6 W h => hl_pm (dirsE l2) hD2 A6 c6 W h
  have hta := fun W h => tl_au l hj A c W h
  have htl := fun W h => tl_el l2 hj2 A2 c2 W h
  generalize someD [[110, 111, 45, 115, 116, 111, 114, 101]] (dirsE l) = h1 at *
  generalize someD [[110, 111, 45, 115, 116, 111, 114, 101], [112, 114, 105, 118, 97, 116, 101]] (dirsE l2) = h2 at *
  generalize someD [[109, 117, 115, 116, 45, 114, 101, 118, 97, 108, 105, 100, 97, 116, 101], [112, 117, 98, 108, 105, 99], [115, 45, 109, 97, 120, 97, 103, 101]] (dirsE l2) = h4 at *
  generalize someD [[112, 117, 98, 108, 105, 99], [109, 97, 120, 45, 97, 103, 101], [115, 45, 109, 97, 120, 97, 103, 101]] (dirsE l2) = h5 at *
  generalize thereB [[65, 117, 116, 104, 111, 114, 105, 122, 97, 116, 105, 111, 110]] l = a at *
  generalize thereB [[69, 120, 112, 105, 114, 101, 115], [76, 97, 115, 116, 45, 77, 111, 100, 105, 102, 105, 101, 100], [69, 84, 97, 103]] l2 = t6 at *

  obtain ⟨bad, hbv⟩ : ∃ bad, badB vr = bad := ⟨_, rfl⟩
  rw [hbv]
  generalize hG : (m == [71, 69, 84]) = G at *
  go_enter Try.func44, Try.ntmps44
  go_wp2_with fail
  generalize hW0 : ((w.alloc (.cells #[S m, S tg, .slice A l.length c, S bq] 43)).alloc (.cells #[.int .i64 code, S rs, .slice A2 l2.length c2, S bp] 45)) = w0 at *
  have q2 := bq0.cell (j := 2) rfl
  have r2 := br0.cell (j := 2) rfl
  go_cut [5, 6] from 11 to 16 (fun a' b' wx => ∃ A5 c5 A6 c6, a' = .slice A5 (dirsE l).length c5 ∧ b' = .slice A6 (dirsE l2).length c6 ∧ ReadL encD wx wx.heap.size A5 (dirsE l) ∧ ReadL encD wx wx.heap.size A6 (dirsE l2) ∧ Below w0.heap.size w0 wx)
  case first =>
    have hX0 : Below w0.heap.size w0 w0.drew := (Below.refl _ _).drew
    go_region_held3 (fun W => W.cell? ⟨w.heap.size, 2, none⟩ = some (.slice A l.length c) ∧ W.cell? ⟨w.heap.size + 1, 2, none⟩ = some (.slice A2 l2.length c2)) ((first | exact ⟨q2, r2⟩ | exact ⟨u3, v3⟩ | exact ⟨u4, v4⟩)) ((go_at_call 85; first
      | ((with_reducible refine Calls.mono (hd1 w0.drew (hB0.trans (hX0.mono hB0.size))) ?_); rintro e w3 ⟨A5, c5, rfl, hrd5, hb5⟩; have bq3 := bq0.drew.keep hb5; have br3 := br0.drew.keep hb5; have hb5 : Below w0.heap.size w0 w3 := Below.trans hX0 hb5; have u3 := bq3.cell (j := 2) rfl; have v3 := br3.cell (j := 2) rfl)
      | ((with_reducible refine Calls.mono (hd2 w0.drew (hB0.trans (hX0.mono hB0.size))) ?_); rintro e w4 ⟨A6, c6, rfl, hrd6, hb6⟩; have bq4 := bq0.drew.keep hb6; have br4 := br0.drew.keep hb6; have hb6 : Below w0.heap.size w0 w4 := Below.trans hX0 hb6; have u4 := bq4.cell (j := 2) rfl; have v4 := br4.cell (j := 2) rfl)
      | ((with_reducible refine Calls.mono (hd2 w3 (hB0.trans (Below.mono hb5 hB0.size))) ?_); rintro e w4 ⟨A6, c6, rfl, hrd6, hb6⟩; have bq4 := bq3.keep hb6; have br4 := br3.keep hb6; have u4 := bq4.cell (j := 2) rfl; have v4 := br4.cell (j := 2) rfl; have hrd5 := (hrd5.below hb6 (Nat.le_refl _)).more hb6.size; have hb6 : Below w0.heap.size w0 w4 := Below.trans hb5 (hb6.mono (Below.size hb5)))
      | ((with_reducible refine Calls.mono (hd1 w4 (hB0.trans (Below.mono hb6 hB0.size))) ?_); rintro e w3 ⟨A5, c5, rfl, hrd5, hb5⟩; have bq3 := bq4.keep hb5; have br3 := br4.keep hb5; have u3 := bq3.cell (j := 2) rfl; have v3 := br3.cell (j := 2) rfl; have hrd6 := (hrd6.below hb5 (Nat.le_refl _)).more hb5.size; have hb5 : Below w0.heap.size w0 w3 := Below.trans hb6 (hb5.mono (Below.size hb6)))))
    all_goals go_wp2_with fail
    all_goals go_meet
    all_goals first | exact ⟨A5, c5, A6, c6, rfl, rfl, hrd5, hrd6, hb6⟩ | exact ⟨A5, c5, A6, c6, rfl, rfl, hrd5, hrd6, hb5⟩
  case rest =>
    obtain ⟨A5, c5, A6, c6, rfl, rfl, hrd5, hrd6, hbc⟩ := hcut
    have bq1 := bq0.keep hbc
    have br1 := br0.keep hbc
    have hB1 : Below w.heap.size w wc := hB0.trans (hbc.mono hB0.size)
    clear bq0 br0 q2 r2 hbc hW0 hd1 hd2
    have q0 := bq1.cell (j := 0) rfl
    have q2 := bq1.cell (j := 2) rfl
    have r0 := br1.cell (j := 0) rfl
    have r2 := br1.cell (j := 2) rfl
    go_wp2_with fail
    refine (hvn _ hB1).mono ?_
    intro e w2 hp
    obtain ⟨A7, k7, c7, st, en, rfl, hbad, hb7⟩ := vy_any hp hvp
    rw [hbv] at hbad
    clear hp hvp
    have hrd5 := (hrd5.below hb7 (Nat.le_refl _)).more hb7.size
    have hrd6 := (hrd6.below hb7 (Nat.le_refl _)).more hb7.size
    have bq2 := bq1.keep hb7
    have br2 := br1.keep hb7
    have hB2 := hB1.trans (hb7.mono hB1.size)
    clear q0 q2 r0 r2
    have q0 := bq2.cell (j := 0) rfl
    have q2 := bq2.cell (j := 2) rfl
    have r0 := br2.cell (j := 0) rfl
    have r2 := br2.cell (j := 2) rfl
    have hbA : Below w2.heap.size w2 (w2.alloc (.cells #[.int .i64 200, .int .i64 203, .int .i64 204, .int .i64 300, .int .i64 301, .int .i64 308, .int .i64 404, .int .i64 405, .int .i64 410, .int .i64 414, .int .i64 501] 3)) := (Below.refl _ _).alloc (Nat.le_refl _) _
    have hrd5 := (hrd5.below hbA (Nat.le_refl _)).more hbA.size
    have hrd6 := (hrd6.below hbA (Nat.le_refl _)).more hbA.size
    have bq3 := bq2.keep hbA
    have br3 := br2.keep hbA
    have hB3 := hB2.trans (hbA.mono hB2.size)
    clear q0 q2 r0 r2
    have q0 := bq3.cell (j := 0) rfl
    have q2 := bq3.cell (j := 2) rfl
    have r0 := br3.cell (j := 0) rfl
    have r2 := br3.cell (j := 2) rfl
    cases G
    · go_wp2_with fail
      go_ret
      exact ⟨by first | rfl | simp [mayB], hB3⟩
    · go_wp2_with fail
      refine (hcl _).mono ?_
      rintro e w9 ⟨rfl, rfl⟩
      clear hcl hbA
      generalize (w2.alloc (.cells #[.int .i64 200, .int .i64 203, .int .i64 204, .int .i64 300, .int .i64 301, .int .i64 308, .int .i64 404, .int .i64 405, .int .i64 410, .int .i64 414, .int .i64 501] 3)) = wA at *
      cases C
      · go_wp2_with fail
        go_ret
        exact ⟨by first | rfl | simp [mayB], hB3⟩
      · go_wp2_with fail
        refine (hh1 A5 c5 _ hrd5).mono ?_
        rintro e w10 ⟨rfl, hx10⟩
        cases h1
        case true =>
          have hrd5 := (hrd5.below hx10 (Nat.le_refl _)).more hx10.size
          have hrd6 := (hrd6.below hx10 (Nat.le_refl _)).more hx10.size
          have bq4 := bq3.keep hx10
          have br4 := br3.keep hx10
          have hB4 := hB3.trans (hx10.mono hB3.size)
          clear q0 q2 r0 r2
          have q0 := bq4.cell (j := 0) rfl
          have q2 := bq4.cell (j := 2) rfl
          have r0 := br4.cell (j := 0) rfl
          have r2 := br4.cell (j := 2) rfl
          go_wp2_with fail
          go_ret
          exact ⟨by first | rfl | simp [mayB], hB4⟩
        case false =>
          have hrd5 := (hrd5.below hx10 (Nat.le_refl _)).more hx10.size
          have hrd6 := (hrd6.below hx10 (Nat.le_refl _)).more hx10.size
          have bq4 := bq3.keep hx10
          have br4 := br3.keep hx10
          have hB4 := hB3.trans (hx10.mono hB3.size)
          clear q0 q2 r0 r2
          have q0 := bq4.cell (j := 0) rfl
          have q2 := bq4.cell (j := 2) rfl
          have r0 := br4.cell (j := 0) rfl
          have r2 := br4.cell (j := 2) rfl
          go_wp2_with fail
          refine (hh2 A6 c6 _ hrd6).mono ?_
          rintro e w11 ⟨rfl, hx11⟩
          cases h2
          case true =>
            have hrd5 := (hrd5.below hx11 (Nat.le_refl _)).more hx11.size
            have hrd6 := (hrd6.below hx11 (Nat.le_refl _)).more hx11.size
            have bq5 := bq4.keep hx11
            have br5 := br4.keep hx11
            have hB5 := hB4.trans (hx11.mono hB4.size)
            clear q0 q2 r0 r2
            have q0 := bq5.cell (j := 0) rfl
            have q2 := bq5.cell (j := 2) rfl
            have r0 := br5.cell (j := 0) rfl
            have r2 := br5.cell (j := 2) rfl
            go_wp2_with fail
            go_ret
            exact ⟨by first | rfl | simp [mayB], hB5⟩
          case false =>
            have hrd5 := (hrd5.below hx11 (Nat.le_refl _)).more hx11.size
            have hrd6 := (hrd6.below hx11 (Nat.le_refl _)).more hx11.size
            have bq5 := bq4.keep hx11
            have br5 := br4.keep hx11
            have hB5 := hB4.trans (hx11.mono hB4.size)
            clear q0 q2 r0 r2
            have q0 := bq5.cell (j := 0) rfl
            have q2 := bq5.cell (j := 2) rfl
            have r0 := br5.cell (j := 0) rfl
            have r2 := br5.cell (j := 2) rfl
            go_wp2_with fail
            refine (hta _ ((hr.below hB5 (Nat.le_refl _)).more hB5.size)).mono ?_
            rintro e w12 ⟨rfl, hx12⟩
            cases a
            case true =>
              have hrd5 := (hrd5.below hx12 (Nat.le_refl _)).more hx12.size
              have hrd6 := (hrd6.below hx12 (Nat.le_refl _)).more hx12.size
              have bq6 := bq5.keep hx12
              have br6 := br5.keep hx12
              have hB6 := hB5.trans (hx12.mono hB5.size)
              clear q0 q2 r0 r2
              have q0 := bq6.cell (j := 0) rfl
              have q2 := bq6.cell (j := 2) rfl
              have r0 := br6.cell (j := 0) rfl
              have r2 := br6.cell (j := 2) rfl
              go_wp2_with fail
              refine (hh4 A6 c6 _ hrd6).mono ?_
              rintro e w13 ⟨rfl, hx13⟩
              cases h4
              case true =>
                have hrd5 := (hrd5.below hx13 (Nat.le_refl _)).more hx13.size
                have hrd6 := (hrd6.below hx13 (Nat.le_refl _)).more hx13.size
                have bq7 := bq6.keep hx13
                have br7 := br6.keep hx13
                have hB7 := hB6.trans (hx13.mono hB6.size)
                clear q0 q2 r0 r2
                have q0 := bq7.cell (j := 0) rfl
                have q2 := bq7.cell (j := 2) rfl
                have r0 := br7.cell (j := 0) rfl
                have r2 := br7.cell (j := 2) rfl
                cases st
                · cases hen : (en == 0)
                  obtain rfl : bad = true := by rw [← hbad, hen]; rfl
                  have hen2 : ¬ en = 0 := by simpa using hen
                  go_wp2_with fail
                  go_ret
                  exact ⟨by first | rfl | simp [mayB], hB7⟩
                  · obtain rfl : bad = false := by rw [← hbad, hen]; rfl
                    have hen2 : en = 0 := by simpa using hen
                    subst hen2
                    go_wp2_with fail
                    refine (hh5 A6 c6 _ hrd6).mono ?_
                    rintro e w17 ⟨rfl, hx7⟩
                    cases h5
                    · have hrd5 := (hrd5.below hx7 (Nat.le_refl _)).more hx7.size
                      have hrd6 := (hrd6.below hx7 (Nat.le_refl _)).more hx7.size
                      have bq8 := bq7.keep hx7
                      have br8 := br7.keep hx7
                      have hB8 := hB7.trans (hx7.mono hB7.size)
                      clear q0 q2 r0 r2
                      have q0 := bq8.cell (j := 0) rfl
                      have q2 := bq8.cell (j := 2) rfl
                      have r0 := br8.cell (j := 0) rfl
                      have r2 := br8.cell (j := 2) rfl
                      go_wp2_with fail
                      refine (htl _ ((hr2.below hB8 (Nat.le_refl _)).more hB8.size)).mono ?_
                      rintro e w18 ⟨rfl, hx8⟩
                      have hrd5 := (hrd5.below hx8 (Nat.le_refl _)).more hx8.size
                      have hrd6 := (hrd6.below hx8 (Nat.le_refl _)).more hx8.size
                      have bq9 := bq8.keep hx8
                      have br9 := br8.keep hx8
                      have hB9 := hB8.trans (hx8.mono hB8.size)
                      clear q0 q2 r0 r2
                      have q0 := bq9.cell (j := 0) rfl
                      have q2 := bq9.cell (j := 2) rfl
                      have r0 := br9.cell (j := 0) rfl
                      have r2 := br9.cell (j := 2) rfl
                      cases t6
                      · go_wp2_with fail
                        go_ret
                        exact ⟨by first | rfl | simp [mayB], hB9⟩
                      · go_wp2_with fail
                        go_ret
                        exact ⟨by first | rfl | simp [mayB], hB9⟩
                    · have hrd5 := (hrd5.below hx7 (Nat.le_refl _)).more hx7.size
                      have hrd6 := (hrd6.below hx7 (Nat.le_refl _)).more hx7.size
                      have bq8 := bq7.keep hx7
                      have br8 := br7.keep hx7
                      have hB8 := hB7.trans (hx7.mono hB7.size)
                      clear q0 q2 r0 r2
                      have q0 := bq8.cell (j := 0) rfl
                      have q2 := bq8.cell (j := 2) rfl
                      have r0 := br8.cell (j := 0) rfl
                      have r2 := br8.cell (j := 2) rfl
                      cases t6
                      · go_wp2_with fail
                        go_ret
                        exact ⟨by first | rfl | simp [mayB], hB8⟩
                      · go_wp2_with fail
                        go_ret
                        exact ⟨by first | rfl | simp [mayB], hB8⟩
                · obtain rfl : bad = true := by rw [← hbad]; rfl
                  go_wp2_with fail
                  go_ret
                  exact ⟨by first | rfl | simp [mayB], hB7⟩
              case false =>
                have hrd5 := (hrd5.below hx13 (Nat.le_refl _)).more hx13.size
                have hrd6 := (hrd6.below hx13 (Nat.le_refl _)).more hx13.size
                have bq7 := bq6.keep hx13
                have br7 := br6.keep hx13
                have hB7 := hB6.trans (hx13.mono hB6.size)
                clear q0 q2 r0 r2
                have q0 := bq7.cell (j := 0) rfl
                have q2 := bq7.cell (j := 2) rfl
                have r0 := br7.cell (j := 0) rfl
                have r2 := br7.cell (j := 2) rfl
                go_wp2_with fail
                go_ret
                exact ⟨by first | rfl | simp [mayB], hB7⟩
            case false =>
              have hrd5 := (hrd5.below hx12 (Nat.le_refl _)).more hx12.size
              have hrd6 := (hrd6.below hx12 (Nat.le_refl _)).more hx12.size
              have bq6 := bq5.keep hx12
              have br6 := br5.keep hx12
              have hB6 := hB5.trans (hx12.mono hB5.size)
              clear q0 q2 r0 r2
              have q0 := bq6.cell (j := 0) rfl
              have q2 := bq6.cell (j := 2) rfl
              have r0 := br6.cell (j := 0) rfl
              have r2 := br6.cell (j := 2) rfl
              cases st
              · cases hen : (en == 0)
                obtain rfl : bad = true := by rw [← hbad, hen]; rfl
                have hen2 : ¬ en = 0 := by simpa using hen
                go_wp2_with fail
                go_ret
                exact ⟨by first | rfl | simp [mayB], hB6⟩
                · obtain rfl : bad = false := by rw [← hbad, hen]; rfl
                  have hen2 : en = 0 := by simpa using hen
                  subst hen2
                  go_wp2_with fail
                  refine (hh5 A6 c6 _ hrd6).mono ?_
                  rintro e w16 ⟨rfl, hx6⟩
                  cases h5
                  · have hrd5 := (hrd5.below hx6 (Nat.le_refl _)).more hx6.size
                    have hrd6 := (hrd6.below hx6 (Nat.le_refl _)).more hx6.size
                    have bq7 := bq6.keep hx6
                    have br7 := br6.keep hx6
                    have hB7 := hB6.trans (hx6.mono hB6.size)
                    clear q0 q2 r0 r2
                    have q0 := bq7.cell (j := 0) rfl
                    have q2 := bq7.cell (j := 2) rfl
                    have r0 := br7.cell (j := 0) rfl
                    have r2 := br7.cell (j := 2) rfl
                    go_wp2_with fail
                    refine (htl _ ((hr2.below hB7 (Nat.le_refl _)).more hB7.size)).mono ?_
                    rintro e w17 ⟨rfl, hx7⟩
                    have hrd5 := (hrd5.below hx7 (Nat.le_refl _)).more hx7.size
                    have hrd6 := (hrd6.below hx7 (Nat.le_refl _)).more hx7.size
                    have bq8 := bq7.keep hx7
                    have br8 := br7.keep hx7
                    have hB8 := hB7.trans (hx7.mono hB7.size)
                    clear q0 q2 r0 r2
                    have q0 := bq8.cell (j := 0) rfl
                    have q2 := bq8.cell (j := 2) rfl
                    have r0 := br8.cell (j := 0) rfl
                    have r2 := br8.cell (j := 2) rfl
                    cases t6
                    · go_wp2_with fail
                      go_ret
                      exact ⟨by first | rfl | simp [mayB], hB8⟩
                    · go_wp2_with fail
                      go_ret
                      exact ⟨by first | rfl | simp [mayB], hB8⟩
                  · have hrd5 := (hrd5.below hx6 (Nat.le_refl _)).more hx6.size
                    have hrd6 := (hrd6.below hx6 (Nat.le_refl _)).more hx6.size
                    have bq7 := bq6.keep hx6
                    have br7 := br6.keep hx6
                    have hB7 := hB6.trans (hx6.mono hB6.size)
                    clear q0 q2 r0 r2
                    have q0 := bq7.cell (j := 0) rfl
                    have q2 := bq7.cell (j := 2) rfl
                    have r0 := br7.cell (j := 0) rfl
                    have r2 := br7.cell (j := 2) rfl
                    cases t6
                    · go_wp2_with fail
                      go_ret
                      exact ⟨by first | rfl | simp [mayB], hB7⟩
                    · go_wp2_with fail
                      go_ret
                      exact ⟨by first | rfl | simp [mayB], hB7⟩
              · obtain rfl : bad = true := by rw [← hbad]; rfl
                go_wp2_with fail
                go_ret
                exact ⟨by first | rfl | simp [mayB], hB6⟩
end
end Go.Proofs.Ytmhhjmncbclihaa

namespace Go.Proofs.Ytmhhjmncbclihaa
section
open Go.RowKit Go.Larder
set_option linter.unusedVariables false
set_option linter.unusedSimpArgs false
theorem sl_ns (D : List Dir) (hl : D.length ≤ 1000) (A : Option Addr) (c : Nat) (w : World) (hr : ReadL encD w w.heap.size A D) :
    Calls Try.prog 91 #[.slice A D.length c, .slice (some ⟨w.heap.size, 0, none⟩) 1 1] (w.alloc (.cells #[S [110, 111, 45, 115, 116, 111, 114, 101]] 9)) (fun e w' => e = .returned (.bool (someD [[110, 111, 45, 115, 116, 111, 114, 101]] D)) ∧ Below w.heap.size w w') := by
  have hB : Below w.heap.size w (w.alloc (.cells #[S [110, 111, 45, 115, 116, 111, 114, 101]] 9)) := (Below.refl _ _).alloc (Nat.le_refl _) _
  have h := w_someR [[110, 111, 45, 115, 116, 111, 114, 101]] (by decide) D hl A c (some ⟨w.heap.size, 0, none⟩) 1 (w.alloc (.cells #[S [110, 111, 45, 115, 116, 111, 114, 101]] 9)) ((hr.below hB (Nat.le_refl _)).more hB.size) ((ReadL.lit (E := encL) w #[S [110, 111, 45, 115, 116, 111, 114, 101]] 9 [[110, 111, 45, 115, 116, 111, 114, 101]] rfl).more (by simp))
  exact h.mono fun e w' ⟨h1, h2⟩ => ⟨h1, hB.trans (h2.mono hB.size)⟩
theorem sl_pr (D : List Dir) (hl : D.length ≤ 1000) (A : Option Addr) (c : Nat) (w : World) (hr : ReadL encD w w.heap.size A D) :
    Calls Try.prog 91 #[.slice A D.length c, .slice (some ⟨w.heap.size, 0, none⟩) 1 1] (w.alloc (.cells #[S [112, 114, 105, 118, 97, 116, 101]] 9)) (fun e w' => e = .returned (.bool (someD [[112, 114, 105, 118, 97, 116, 101]] D)) ∧ Below w.heap.size w w') := by
  have hB : Below w.heap.size w (w.alloc (.cells #[S [112, 114, 105, 118, 97, 116, 101]] 9)) := (Below.refl _ _).alloc (Nat.le_refl _) _
  have h := w_someR [[112, 114, 105, 118, 97, 116, 101]] (by decide) D hl A c (some ⟨w.heap.size, 0, none⟩) 1 (w.alloc (.cells #[S [112, 114, 105, 118, 97, 116, 101]] 9)) ((hr.below hB (Nat.le_refl _)).more hB.size) ((ReadL.lit (E := encL) w #[S [112, 114, 105, 118, 97, 116, 101]] 9 [[112, 114, 105, 118, 97, 116, 101]] rfl).more (by simp))
  exact h.mono fun e w' ⟨h1, h2⟩ => ⟨h1, hB.trans (h2.mono hB.size)⟩
theorem sl_mr (D : List Dir) (hl : D.length ≤ 1000) (A : Option Addr) (c : Nat) (w : World) (hr : ReadL encD w w.heap.size A D) :
    Calls Try.prog 91 #[.slice A D.length c, .slice (some ⟨w.heap.size, 0, none⟩) 3 3] (w.alloc (.cells #[S [109, 117, 115, 116, 45, 114, 101, 118, 97, 108, 105, 100, 97, 116, 101], S [112, 117, 98, 108, 105, 99], S [115, 45, 109, 97, 120, 97, 103, 101]] 9)) (fun e w' => e = .returned (.bool (someD [[109, 117, 115, 116, 45, 114, 101, 118, 97, 108, 105, 100, 97, 116, 101], [112, 117, 98, 108, 105, 99], [115, 45, 109, 97, 120, 97, 103, 101]] D)) ∧ Below w.heap.size w w') := by
  have hB : Below w.heap.size w (w.alloc (.cells #[S [109, 117, 115, 116, 45, 114, 101, 118, 97, 108, 105, 100, 97, 116, 101], S [112, 117, 98, 108, 105, 99], S [115, 45, 109, 97, 120, 97, 103, 101]] 9)) := (Below.refl _ _).alloc (Nat.le_refl _) _
  have h := w_someR [[109, 117, 115, 116, 45, 114, 101, 118, 97, 108, 105, 100, 97, 116, 101], [112, 117, 98, 108, 105, 99], [115, 45, 109, 97, 120, 97, 103, 101]] (by decide) D hl A c (some ⟨w.heap.size, 0, none⟩) 3 (w.alloc (.cells #[S [109, 117, 115, 116, 45, 114, 101, 118, 97, 108, 105, 100, 97, 116, 101], S [112, 117, 98, 108, 105, 99], S [115, 45, 109, 97, 120, 97, 103, 101]] 9)) ((hr.below hB (Nat.le_refl _)).more hB.size) ((ReadL.lit (E := encL) w #[S [109, 117, 115, 116, 45, 114, 101, 118, 97, 108, 105, 100, 97, 116, 101], S [112, 117, 98, 108, 105, 99], S [115, 45, 109, 97, 120, 97, 103, 101]] 9 [[109, 117, 115, 116, 45, 114, 101, 118, 97, 108, 105, 100, 97, 116, 101], [112, 117, 98, 108, 105, 99], [115, 45, 109, 97, 120, 97, 103, 101]] rfl).more (by simp))
  exact h.mono fun e w' ⟨h1, h2⟩ => ⟨h1, hB.trans (h2.mono hB.size)⟩
theorem sl_pm (D : List Dir) (hl : D.length ≤ 1000) (A : Option Addr) (c : Nat) (w : World) (hr : ReadL encD w w.heap.size A D) :
    Calls Try.prog 91 #[.slice A D.length c, .slice (some ⟨w.heap.size, 0, none⟩) 3 3] (w.alloc (.cells #[S [112, 117, 98, 108, 105, 99], S [109, 97, 120, 45, 97, 103, 101], S [115, 45, 109, 97, 120, 97, 103, 101]] 9)) (fun e w' => e = .returned (.bool (someD [[112, 117, 98, 108, 105, 99], [109, 97, 120, 45, 97, 103, 101], [115, 45, 109, 97, 120, 97, 103, 101]] D)) ∧ Below w.heap.size w w') := by
  have hB : Below w.heap.size w (w.alloc (.cells #[S [112, 117, 98, 108, 105, 99], S [109, 97, 120, 45, 97, 103, 101], S [115, 45, 109, 97, 120, 97, 103, 101]] 9)) := (Below.refl _ _).alloc (Nat.le_refl _) _
  have h := w_someR [[112, 117, 98, 108, 105, 99], [109, 97, 120, 45, 97, 103, 101], [115, 45, 109, 97, 120, 97, 103, 101]] (by decide) D hl A c (some ⟨w.heap.size, 0, none⟩) 3 (w.alloc (.cells #[S [112, 117, 98, 108, 105, 99], S [109, 97, 120, 45, 97, 103, 101], S [115, 45, 109, 97, 120, 97, 103, 101]] 9)) ((hr.below hB (Nat.le_refl _)).more hB.size) ((ReadL.lit (E := encL) w #[S [112, 117, 98, 108, 105, 99], S [109, 97, 120, 45, 97, 103, 101], S [115, 45, 109, 97, 120, 97, 103, 101]] 9 [[112, 117, 98, 108, 105, 99], [109, 97, 120, 45, 97, 103, 101], [115, 45, 109, 97, 120, 97, 103, 101]] rfl).more (by simp))
  exact h.mono fun e w' ⟨h1, h2⟩ => ⟨h1, hB.trans (h2.mono hB.size)⟩
theorem al_au (l : List Fld) (hj : (l.map (fun f => f.1.length + f.2.length + 3)).sum ≤ 1048576) (A : Option Addr) (c : Nat) (w : World) (hr : ReadL encF w w.heap.size A l) :
    Calls Try.prog 92 #[.slice A l.length c, .slice (some ⟨w.heap.size, 0, none⟩) 1 1] (w.alloc (.cells #[S [65, 117, 116, 104, 111, 114, 105, 122, 97, 116, 105, 111, 110]] 9)) (fun e w' => e = .returned (.bool (thereB [[65, 117, 116, 104, 111, 114, 105, 122, 97, 116, 105, 111, 110]] l)) ∧ Below w.heap.size w w') := by
  have hB : Below w.heap.size w (w.alloc (.cells #[S [65, 117, 116, 104, 111, 114, 105, 122, 97, 116, 105, 111, 110]] 9)) := (Below.refl _ _).alloc (Nat.le_refl _) _
  have h := w_anyFieldR [[65, 117, 116, 104, 111, 114, 105, 122, 97, 116, 105, 111, 110]] (by decide) (by decide) l hj A c (some ⟨w.heap.size, 0, none⟩) 1 (w.alloc (.cells #[S [65, 117, 116, 104, 111, 114, 105, 122, 97, 116, 105, 111, 110]] 9)) ((hr.below hB (Nat.le_refl _)).more hB.size) ((ReadL.lit (E := encL) w #[S [65, 117, 116, 104, 111, 114, 105, 122, 97, 116, 105, 111, 110]] 9 [[65, 117, 116, 104, 111, 114, 105, 122, 97, 116, 105, 111, 110]] rfl).more (by simp))
  exact h.mono fun e w' ⟨h1, h2⟩ => ⟨h1, hB.trans (h2.mono hB.size)⟩
theorem al_el (l : List Fld) (hj : (l.map (fun f => f.1.length + f.2.length + 3)).sum ≤ 1048576) (A : Option Addr) (c : Nat) (w : World) (hr : ReadL encF w w.heap.size A l) :
    Calls Try.prog 92 #[.slice A l.length c, .slice (some ⟨w.heap.size, 0, none⟩) 3 3] (w.alloc (.cells #[S [69, 120, 112, 105, 114, 101, 115], S [76, 97, 115, 116, 45, 77, 111, 100, 105, 102, 105, 101, 100], S [69, 84, 97, 103]] 9)) (fun e w' => e = .returned (.bool (thereB [[69, 120, 112, 105, 114, 101, 115], [76, 97, 115, 116, 45, 77, 111, 100, 105, 102, 105, 101, 100], [69, 84, 97, 103]] l)) ∧ Below w.heap.size w w') := by
  have hB : Below w.heap.size w (w.alloc (.cells #[S [69, 120, 112, 105, 114, 101, 115], S [76, 97, 115, 116, 45, 77, 111, 100, 105, 102, 105, 101, 100], S [69, 84, 97, 103]] 9)) := (Below.refl _ _).alloc (Nat.le_refl _) _
  have h := w_anyFieldR [[69, 120, 112, 105, 114, 101, 115], [76, 97, 115, 116, 45, 77, 111, 100, 105, 102, 105, 101, 100], [69, 84, 97, 103]] (by decide) (by decide) l hj A c (some ⟨w.heap.size, 0, none⟩) 3 (w.alloc (.cells #[S [69, 120, 112, 105, 114, 101, 115], S [76, 97, 115, 116, 45, 77, 111, 100, 105, 102, 105, 101, 100], S [69, 84, 97, 103]] 9)) ((hr.below hB (Nat.le_refl _)).more hB.size) ((ReadL.lit (E := encL) w #[S [69, 120, 112, 105, 114, 101, 115], S [76, 97, 115, 116, 45, 77, 111, 100, 105, 102, 105, 101, 100], S [69, 84, 97, 103]] 9 [[69, 120, 112, 105, 114, 101, 115], [76, 97, 115, 116, 45, 77, 111, 100, 105, 102, 105, 101, 100], [69, 84, 97, 103]] rfl).more (by simp))
  exact h.mono fun e w' ⟨h1, h2⟩ => ⟨h1, hB.trans (h2.mono hB.size)⟩
theorem someD_np (D : List Dir) : someD [[110, 111, 45, 115, 116, 111, 114, 101], [112, 114, 105, 118, 97, 116, 101]] D = (someD [[110, 111, 45, 115, 116, 111, 114, 101]] D || someD [[112, 114, 105, 118, 97, 116, 101]] D) := by simp [someD]
set_option maxHeartbeats 8000000 in
set_option maxRecDepth 100000 in
theorem w_MayStoreR (m : List UInt8) (hm : m.length ≤ 1048576) (tg : List UInt8) (A : Option Addr) (l : List Fld) (c : Nat) (hj : (l.map (fun f => f.1.length + f.2.length + 3)).sum ≤ 1048576) (bq : List UInt8) (code : Int) (rs : List UInt8) (A2 : Option Addr) (l2 : List Fld) (c2 : Nat) (hj2 : (l2.map (fun f => f.1.length + f.2.length + 3)).sum ≤ 1048576) (bp : List UInt8) (w : World) (hr : ReadL encF w w.heap.size A l) (hr2 : ReadL encF w w.heap.size A2 l2) :
    Calls Try.prog 45 #[.agg #[S m, S tg, .slice A l.length c, S bq], .agg #[.int .i64 code, S rs, .slice A2 l2.length c2, S bp]] w fun e w' => e = .returned (.bool (mayB (m == [71, 69, 84]) (codeB code) (someD [[110, 111, 45, 115, 116, 111, 114, 101]] (dirsE l)) (someD [[110, 111, 45, 115, 116, 111, 114, 101]] (dirsE l2) || someD [[112, 114, 105, 118, 97, 116, 101]] (dirsE l2)) (thereB [[65, 117, 116, 104, 111, 114, 105, 122, 97, 116, 105, 111, 110]] l) (someD [[109, 117, 115, 116, 45, 114, 101, 118, 97, 108, 105, 100, 97, 116, 101], [112, 117, 98, 108, 105, 99], [115, 45, 109, 97, 120, 97, 103, 101]] (dirsE l2)) (badB (varyE (Lib.join (valsL (lowL varyN) l2) sepL))) (someD [[112, 117, 98, 108, 105, 99], [109, 97, 120, 45, 97, 103, 101], [115, 45, 109, 97, 120, 97, 103, 101]] (dirsE l2)) (thereB [[69, 120, 112, 105, 114, 101, 115], [76, 97, 115, 116, 45, 77, 111, 100, 105, 102, 105, 101, 100], [69, 84, 97, 103]] l2))) ∧ Below w.heap.size w w' := by
  have bq0 := (BoxAt.new w [S m, S tg, .slice A l.length c, S bq] 43).alloc (.cells #[.int .i64 code, S rs, .slice A2 l2.length c2, S bp] 45)
  have br0 := BoxAt.new (w.alloc (.cells #[S m, S tg, .slice A l.length c, S bq] 43)) [.int .i64 code, S rs, .slice A2 l2.length c2, S bp] 45
  rw [World.size_alloc] at br0
  have hB0 : Below w.heap.size w ((w.alloc (.cells #[S m, S tg, .slice A l.length c, S bq] 43)).alloc (.cells #[.int .i64 code, S rs, .slice A2 l2.length c2, S bp] 45)) := ((Below.refl _ _).alloc (Nat.le_refl _) _).alloc (by simp) _
  have hd1 := fun (W : World) (hW : Below w.heap.size w W) => w_controlsR l hj A c W ((hr.below hW (Nat.le_refl _)).more hW.size)
  have hd2 := fun (W : World) (hW : Below w.heap.size w W) => w_controlsR l2 hj2 A2 c2 W ((hr2.below hW (Nat.le_refl _)).more hW.size)
  have hvn := fun (W : World) (hW : Below w.heap.size w W) => w_NamesR l2 hj2 A2 c2 W ((hr2.below hW (Nat.le_refl _)).more hW.size)
  have hvp : ∀ n, varyE (Lib.join (valsL (lowL varyN) l2) sepL) = .error n → (n == 0) = false := fun n h => varyE_pos h
  have hD1 := dirsE_len l hj
  have hD2 := dirsE_len l2 hj2
  generalize varyE (Lib.join (valsL (lowL varyN) l2) sepL) = vr at *
  have hcl := fun (W : World) => w_storedR code W
  generalize codeB code = C at *
  have hs1 := fun A5 c5 W h => sl_ns (dirsE l) hD1 A5 c5 W h
  have hs2 := fun A6 c6 W h => sl_ns (dirsE l2) hD2 A6 c6 W h
  have hs3 := fun A6 c6 W h => sl_pr (dirsE l2) hD2 A6 c6 W h
  have hh4 := fun A6 c6 W h => sl_mr (dirsE l2) hD2 A6 c6 W h
  have hh5 := fun A6 c6 W h => sl_pm (dirsE l2) hD2 A6 c6 W h
  have hta := fun W h => al_au l hj A c W h
  have htl := fun W h => al_el l2 hj2 A2 c2 W h
  generalize someD [[110, 111, 45, 115, 116, 111, 114, 101]] (dirsE l) = h1 at *
  generalize someD [[110, 111, 45, 115, 116, 111, 114, 101]] (dirsE l2) = s2 at *
  generalize someD [[112, 114, 105, 118, 97, 116, 101]] (dirsE l2) = s3 at *
  generalize someD [[109, 117, 115, 116, 45, 114, 101, 118, 97, 108, 105, 100, 97, 116, 101], [112, 117, 98, 108, 105, 99], [115, 45, 109, 97, 120, 97, 103, 101]] (dirsE l2) = h4 at *
  generalize someD [[112, 117, 98, 108, 105, 99], [109, 97, 120, 45, 97, 103, 101], [115, 45, 109, 97, 120, 97, 103, 101]] (dirsE l2) = h5 at *
  generalize thereB [[65, 117, 116, 104, 111, 114, 105, 122, 97, 116, 105, 111, 110]] l = a at *
  generalize thereB [[69, 120, 112, 105, 114, 101, 115], [76, 97, 115, 116, 45, 77, 111, 100, 105, 102, 105, 101, 100], [69, 84, 97, 103]] l2 = t6 at *

  obtain ⟨bad, hbv⟩ : ∃ bad, badB vr = bad := ⟨_, rfl⟩
  rw [hbv]
  generalize hG : (m == [71, 69, 84]) = G at *
  go_enter Try.func45, Try.ntmps45
  go_wp2_with fail
  generalize hW0 : ((w.alloc (.cells #[S m, S tg, .slice A l.length c, S bq] 43)).alloc (.cells #[.int .i64 code, S rs, .slice A2 l2.length c2, S bp] 45)) = w0 at *
  have q2 := bq0.cell (j := 2) rfl
  have r2 := br0.cell (j := 2) rfl
  go_cut [5, 6] from 10 to 15 (fun a' b' wx => ∃ A5 c5 A6 c6, a' = .slice A5 (dirsE l).length c5 ∧ b' = .slice A6 (dirsE l2).length c6 ∧ ReadL encD wx wx.heap.size A5 (dirsE l) ∧ ReadL encD wx wx.heap.size A6 (dirsE l2) ∧ Below w0.heap.size w0 wx)
  case first =>
    have hX0 : Below w0.heap.size w0 w0.drew := (Below.refl _ _).drew
    go_region_held3 (fun W => W.cell? ⟨w.heap.size, 2, none⟩ = some (.slice A l.length c) ∧ W.cell? ⟨w.heap.size + 1, 2, none⟩ = some (.slice A2 l2.length c2)) ((first | exact ⟨q2, r2⟩ | exact ⟨u3, v3⟩ | exact ⟨u4, v4⟩)) ((go_at_call 89; first
      | ((with_reducible refine Calls.mono (hd1 w0.drew (hB0.trans (hX0.mono hB0.size))) ?_); rintro e w3 ⟨A5, c5, rfl, hrd5, hb5⟩; have bq3 := bq0.drew.keep hb5; have br3 := br0.drew.keep hb5; have hb5 : Below w0.heap.size w0 w3 := Below.trans hX0 hb5; have u3 := bq3.cell (j := 2) rfl; have v3 := br3.cell (j := 2) rfl)
      | ((with_reducible refine Calls.mono (hd2 w0.drew (hB0.trans (hX0.mono hB0.size))) ?_); rintro e w4 ⟨A6, c6, rfl, hrd6, hb6⟩; have bq4 := bq0.drew.keep hb6; have br4 := br0.drew.keep hb6; have hb6 : Below w0.heap.size w0 w4 := Below.trans hX0 hb6; have u4 := bq4.cell (j := 2) rfl; have v4 := br4.cell (j := 2) rfl)
      | ((with_reducible refine Calls.mono (hd2 w3 (hB0.trans (Below.mono hb5 hB0.size))) ?_); rintro e w4 ⟨A6, c6, rfl, hrd6, hb6⟩; have bq4 := bq3.keep hb6; have br4 := br3.keep hb6; have u4 := bq4.cell (j := 2) rfl; have v4 := br4.cell (j := 2) rfl; have hrd5 := (hrd5.below hb6 (Nat.le_refl _)).more hb6.size; have hb6 : Below w0.heap.size w0 w4 := Below.trans hb5 (hb6.mono (Below.size hb5)))
      | ((with_reducible refine Calls.mono (hd1 w4 (hB0.trans (Below.mono hb6 hB0.size))) ?_); rintro e w3 ⟨A5, c5, rfl, hrd5, hb5⟩; have bq3 := bq4.keep hb5; have br3 := br4.keep hb5; have u3 := bq3.cell (j := 2) rfl; have v3 := br3.cell (j := 2) rfl; have hrd6 := (hrd6.below hb5 (Nat.le_refl _)).more hb5.size; have hb5 : Below w0.heap.size w0 w3 := Below.trans hb6 (hb5.mono (Below.size hb6)))))
    all_goals go_wp2_with fail
    all_goals go_meet
    all_goals first | exact ⟨A5, c5, A6, c6, rfl, rfl, hrd5, hrd6, hb6⟩ | exact ⟨A5, c5, A6, c6, rfl, rfl, hrd5, hrd6, hb5⟩
  case rest =>
    obtain ⟨A5, c5, A6, c6, rfl, rfl, hrd5, hrd6, hbc⟩ := hcut
    have bq1 := bq0.keep hbc
    have br1 := br0.keep hbc
    have hB1 : Below w.heap.size w wc := hB0.trans (hbc.mono hB0.size)
    clear bq0 br0 q2 r2 hbc hW0 hd1 hd2
    have q0 := bq1.cell (j := 0) rfl
    have q2 := bq1.cell (j := 2) rfl
    have r0 := br1.cell (j := 0) rfl
    have r2 := br1.cell (j := 2) rfl
    go_wp2_with fail
    refine (hvn _ hB1).mono ?_
    intro e w2 hp
    obtain ⟨A7, k7, c7, st, en, rfl, hbad, hb7⟩ := vy_any hp hvp
    rw [hbv] at hbad
    clear hp hvp
    have hrd5 := (hrd5.below hb7 (Nat.le_refl _)).more hb7.size
    have hrd6 := (hrd6.below hb7 (Nat.le_refl _)).more hb7.size
    have bq2 := bq1.keep hb7
    have br2 := br1.keep hb7
    have hB2 := hB1.trans (hb7.mono hB1.size)
    clear q0 q2 r0 r2
    have q0 := bq2.cell (j := 0) rfl
    have q2 := bq2.cell (j := 2) rfl
    have r0 := br2.cell (j := 0) rfl
    have r2 := br2.cell (j := 2) rfl
    cases G
    · go_wp2_with fail
      go_ret
      exact ⟨by first | rfl | simp [mayB], hB2⟩
    · go_wp2_with fail
      refine (hcl _).mono ?_
      rintro e w12 ⟨rfl, hx12⟩
      cases C
      case true =>
        have hrd5 := (hrd5.below hx12 (Nat.le_refl _)).more hx12.size
        have hrd6 := (hrd6.below hx12 (Nat.le_refl _)).more hx12.size
        have bq3 := bq2.keep hx12
        have br3 := br2.keep hx12
        have hB3 := hB2.trans (hx12.mono hB2.size)
        clear q0 q2 r0 r2
        have q0 := bq3.cell (j := 0) rfl
        have q2 := bq3.cell (j := 2) rfl
        have r0 := br3.cell (j := 0) rfl
        have r2 := br3.cell (j := 2) rfl
        go_wp2_with fail
        refine (hs1 A5 c5 _ hrd5).mono ?_
        rintro e w13 ⟨rfl, hx13⟩
        cases h1
        case true =>
          have hrd5 := (hrd5.below hx13 (Nat.le_refl _)).more hx13.size
          have hrd6 := (hrd6.below hx13 (Nat.le_refl _)).more hx13.size
          have bq4 := bq3.keep hx13
          have br4 := br3.keep hx13
          have hB4 := hB3.trans (hx13.mono hB3.size)
          clear q0 q2 r0 r2
          have q0 := bq4.cell (j := 0) rfl
          have q2 := bq4.cell (j := 2) rfl
          have r0 := br4.cell (j := 0) rfl
          have r2 := br4.cell (j := 2) rfl
          go_wp2_with fail
          go_ret
          exact ⟨by first | rfl | simp [mayB], hB4⟩
        case false =>
          have hrd5 := (hrd5.below hx13 (Nat.le_refl _)).more hx13.size
          have hrd6 := (hrd6.below hx13 (Nat.le_refl _)).more hx13.size
          have bq4 := bq3.keep hx13
          have br4 := br3.keep hx13
          have hB4 := hB3.trans (hx13.mono hB3.size)
          clear q0 q2 r0 r2
          have q0 := bq4.cell (j := 0) rfl
          have q2 := bq4.cell (j := 2) rfl
          have r0 := br4.cell (j := 0) rfl
          have r2 := br4.cell (j := 2) rfl
          go_wp2_with fail
          refine (hs2 A6 c6 _ hrd6).mono ?_
          rintro e w14 ⟨rfl, hx14⟩
          cases s2
          case true =>
            have hrd5 := (hrd5.below hx14 (Nat.le_refl _)).more hx14.size
            have hrd6 := (hrd6.below hx14 (Nat.le_refl _)).more hx14.size
            have bq5 := bq4.keep hx14
            have br5 := br4.keep hx14
            have hB5 := hB4.trans (hx14.mono hB4.size)
            clear q0 q2 r0 r2
            have q0 := bq5.cell (j := 0) rfl
            have q2 := bq5.cell (j := 2) rfl
            have r0 := br5.cell (j := 0) rfl
            have r2 := br5.cell (j := 2) rfl
            go_wp2_with fail
            go_ret
            exact ⟨by first | rfl | simp [mayB], hB5⟩
          case false =>
            have hrd5 := (hrd5.below hx14 (Nat.le_refl _)).more hx14.size
            have hrd6 := (hrd6.below hx14 (Nat.le_refl _)).more hx14.size
            have bq5 := bq4.keep hx14
            have br5 := br4.keep hx14
            have hB5 := hB4.trans (hx14.mono hB4.size)
            clear q0 q2 r0 r2
            have q0 := bq5.cell (j := 0) rfl
            have q2 := bq5.cell (j := 2) rfl
            have r0 := br5.cell (j := 0) rfl
            have r2 := br5.cell (j := 2) rfl
            go_wp2_with fail
            refine (hs3 A6 c6 _ hrd6).mono ?_
            rintro e w15 ⟨rfl, hx15⟩
            cases s3
            case true =>
              have hrd5 := (hrd5.below hx15 (Nat.le_refl _)).more hx15.size
              have hrd6 := (hrd6.below hx15 (Nat.le_refl _)).more hx15.size
              have bq6 := bq5.keep hx15
              have br6 := br5.keep hx15
              have hB6 := hB5.trans (hx15.mono hB5.size)
              clear q0 q2 r0 r2
              have q0 := bq6.cell (j := 0) rfl
              have q2 := bq6.cell (j := 2) rfl
              have r0 := br6.cell (j := 0) rfl
              have r2 := br6.cell (j := 2) rfl
              go_wp2_with fail
              go_ret
              exact ⟨by first | rfl | simp [mayB], hB6⟩
            case false =>
              have hrd5 := (hrd5.below hx15 (Nat.le_refl _)).more hx15.size
              have hrd6 := (hrd6.below hx15 (Nat.le_refl _)).more hx15.size
              have bq6 := bq5.keep hx15
              have br6 := br5.keep hx15
              have hB6 := hB5.trans (hx15.mono hB5.size)
              clear q0 q2 r0 r2
              have q0 := bq6.cell (j := 0) rfl
              have q2 := bq6.cell (j := 2) rfl
              have r0 := br6.cell (j := 0) rfl
              have r2 := br6.cell (j := 2) rfl
              cases st
              · cases hen : (en == 0)
                · obtain rfl : bad = true := by rw [← hbad, hen]; rfl
                  have hen2 : ¬ en = 0 := by simpa using hen
                  go_wp2_with fail
                  go_ret
                  exact ⟨by first | rfl | simp [mayB], hB6⟩
                · obtain rfl : bad = false := by rw [← hbad, hen]; rfl
                  have hen2 : en = 0 := by simpa using hen
                  subst hen2
                  go_wp2_with fail
                  refine (hta _ ((hr.below hB6 (Nat.le_refl _)).more hB6.size)).mono ?_
                  rintro e w16 ⟨rfl, hx16⟩
                  cases a
                  case true =>
                    have hrd5 := (hrd5.below hx16 (Nat.le_refl _)).more hx16.size
                    have hrd6 := (hrd6.below hx16 (Nat.le_refl _)).more hx16.size
                    have bq7 := bq6.keep hx16
                    have br7 := br6.keep hx16
                    have hB7 := hB6.trans (hx16.mono hB6.size)
                    clear q0 q2 r0 r2
                    have q0 := bq7.cell (j := 0) rfl
                    have q2 := bq7.cell (j := 2) rfl
                    have r0 := br7.cell (j := 0) rfl
                    have r2 := br7.cell (j := 2) rfl
                    go_wp2_with fail
                    refine (hh4 A6 c6 _ hrd6).mono ?_
                    rintro e w17 ⟨rfl, hx17⟩
                    cases h4
                    case true =>
                      have hrd5 := (hrd5.below hx17 (Nat.le_refl _)).more hx17.size
                      have hrd6 := (hrd6.below hx17 (Nat.le_refl _)).more hx17.size
                      have bq8 := bq7.keep hx17
                      have br8 := br7.keep hx17
                      have hB8 := hB7.trans (hx17.mono hB7.size)
                      clear q0 q2 r0 r2
                      have q0 := bq8.cell (j := 0) rfl
                      have q2 := bq8.cell (j := 2) rfl
                      have r0 := br8.cell (j := 0) rfl
                      have r2 := br8.cell (j := 2) rfl
                      go_wp2_with fail
                      refine (htl _ ((hr2.below hB8 (Nat.le_refl _)).more hB8.size)).mono ?_
                      rintro e w18 ⟨rfl, hx18⟩
                      cases t6
                      case true =>
                        have hrd5 := (hrd5.below hx18 (Nat.le_refl _)).more hx18.size
                        have hrd6 := (hrd6.below hx18 (Nat.le_refl _)).more hx18.size
                        have bq9 := bq8.keep hx18
                        have br9 := br8.keep hx18
                        have hB9 := hB8.trans (hx18.mono hB8.size)
                        clear q0 q2 r0 r2
                        have q0 := bq9.cell (j := 0) rfl
                        have q2 := bq9.cell (j := 2) rfl
                        have r0 := br9.cell (j := 0) rfl
                        have r2 := br9.cell (j := 2) rfl
                        go_wp2_with fail
                        go_ret
                        exact ⟨by first | rfl | simp [mayB], hB9⟩
                      case false =>
                        have hrd5 := (hrd5.below hx18 (Nat.le_refl _)).more hx18.size
                        have hrd6 := (hrd6.below hx18 (Nat.le_refl _)).more hx18.size
                        have bq9 := bq8.keep hx18
                        have br9 := br8.keep hx18
                        have hB9 := hB8.trans (hx18.mono hB8.size)
                        clear q0 q2 r0 r2
                        have q0 := bq9.cell (j := 0) rfl
                        have q2 := bq9.cell (j := 2) rfl
                        have r0 := br9.cell (j := 0) rfl
                        have r2 := br9.cell (j := 2) rfl
                        go_wp2_with fail
                        refine (hh5 A6 c6 _ hrd6).mono ?_
                        rintro e w19 ⟨rfl, hx19⟩
                        cases h5
                        case true =>
                          have hrd5 := (hrd5.below hx19 (Nat.le_refl _)).more hx19.size
                          have hrd6 := (hrd6.below hx19 (Nat.le_refl _)).more hx19.size
                          have bq10 := bq9.keep hx19
                          have br10 := br9.keep hx19
                          have hB10 := hB9.trans (hx19.mono hB9.size)
                          clear q0 q2 r0 r2
                          have q0 := bq10.cell (j := 0) rfl
                          have q2 := bq10.cell (j := 2) rfl
                          have r0 := br10.cell (j := 0) rfl
                          have r2 := br10.cell (j := 2) rfl
                          go_wp2_with fail
                          go_ret
                          exact ⟨by first | rfl | simp [mayB], hB10⟩
                        case false =>
                          have hrd5 := (hrd5.below hx19 (Nat.le_refl _)).more hx19.size
                          have hrd6 := (hrd6.below hx19 (Nat.le_refl _)).more hx19.size
                          have bq10 := bq9.keep hx19
                          have br10 := br9.keep hx19
                          have hB10 := hB9.trans (hx19.mono hB9.size)
                          clear q0 q2 r0 r2
                          have q0 := bq10.cell (j := 0) rfl
                          have q2 := bq10.cell (j := 2) rfl
                          have r0 := br10.cell (j := 0) rfl
                          have r2 := br10.cell (j := 2) rfl
                          go_wp2_with fail
                          go_ret
                          exact ⟨by first | rfl | simp [mayB], hB10⟩
                    case false =>
                      have hrd5 := (hrd5.below hx17 (Nat.le_refl _)).more hx17.size
                      have hrd6 := (hrd6.below hx17 (Nat.le_refl _)).more hx17.size
                      have bq8 := bq7.keep hx17
                      have br8 := br7.keep hx17
                      have hB8 := hB7.trans (hx17.mono hB7.size)
                      clear q0 q2 r0 r2
                      have q0 := bq8.cell (j := 0) rfl
                      have q2 := bq8.cell (j := 2) rfl
                      have r0 := br8.cell (j := 0) rfl
                      have r2 := br8.cell (j := 2) rfl
                      go_wp2_with fail
                      go_ret
                      exact ⟨by first | rfl | simp [mayB], hB8⟩
                  case false =>
                    have hrd5 := (hrd5.below hx16 (Nat.le_refl _)).more hx16.size
                    have hrd6 := (hrd6.below hx16 (Nat.le_refl _)).more hx16.size
                    have bq7 := bq6.keep hx16
                    have br7 := br6.keep hx16
                    have hB7 := hB6.trans (hx16.mono hB6.size)
                    clear q0 q2 r0 r2
                    have q0 := bq7.cell (j := 0) rfl
                    have q2 := bq7.cell (j := 2) rfl
                    have r0 := br7.cell (j := 0) rfl
                    have r2 := br7.cell (j := 2) rfl
                    go_wp2_with fail
                    refine (htl _ ((hr2.below hB7 (Nat.le_refl _)).more hB7.size)).mono ?_
                    rintro e w18 ⟨rfl, hx18⟩
                    cases t6
                    case true =>
                      have hrd5 := (hrd5.below hx18 (Nat.le_refl _)).more hx18.size
                      have hrd6 := (hrd6.below hx18 (Nat.le_refl _)).more hx18.size
                      have bq8 := bq7.keep hx18
                      have br8 := br7.keep hx18
                      have hB8 := hB7.trans (hx18.mono hB7.size)
                      clear q0 q2 r0 r2
                      have q0 := bq8.cell (j := 0) rfl
                      have q2 := bq8.cell (j := 2) rfl
                      have r0 := br8.cell (j := 0) rfl
                      have r2 := br8.cell (j := 2) rfl
                      go_wp2_with fail
                      go_ret
                      exact ⟨by first | rfl | simp [mayB], hB8⟩
                    case false =>
                      have hrd5 := (hrd5.below hx18 (Nat.le_refl _)).more hx18.size
                      have hrd6 := (hrd6.below hx18 (Nat.le_refl _)).more hx18.size
                      have bq8 := bq7.keep hx18
                      have br8 := br7.keep hx18
                      have hB8 := hB7.trans (hx18.mono hB7.size)
                      clear q0 q2 r0 r2
                      have q0 := bq8.cell (j := 0) rfl
                      have q2 := bq8.cell (j := 2) rfl
                      have r0 := br8.cell (j := 0) rfl
                      have r2 := br8.cell (j := 2) rfl
                      go_wp2_with fail
                      refine (hh5 A6 c6 _ hrd6).mono ?_
                      rintro e w19 ⟨rfl, hx19⟩
                      cases h5
                      case true =>
                        have hrd5 := (hrd5.below hx19 (Nat.le_refl _)).more hx19.size
                        have hrd6 := (hrd6.below hx19 (Nat.le_refl _)).more hx19.size
                        have bq9 := bq8.keep hx19
                        have br9 := br8.keep hx19
                        have hB9 := hB8.trans (hx19.mono hB8.size)
                        clear q0 q2 r0 r2
                        have q0 := bq9.cell (j := 0) rfl
                        have q2 := bq9.cell (j := 2) rfl
                        have r0 := br9.cell (j := 0) rfl
                        have r2 := br9.cell (j := 2) rfl
                        go_wp2_with fail
                        go_ret
                        exact ⟨by first | rfl | simp [mayB], hB9⟩
                      case false =>
                        have hrd5 := (hrd5.below hx19 (Nat.le_refl _)).more hx19.size
                        have hrd6 := (hrd6.below hx19 (Nat.le_refl _)).more hx19.size
                        have bq9 := bq8.keep hx19
                        have br9 := br8.keep hx19
                        have hB9 := hB8.trans (hx19.mono hB8.size)
                        clear q0 q2 r0 r2
                        have q0 := bq9.cell (j := 0) rfl
                        have q2 := bq9.cell (j := 2) rfl
                        have r0 := br9.cell (j := 0) rfl
                        have r2 := br9.cell (j := 2) rfl
                        go_wp2_with fail
                        go_ret
                        exact ⟨by first | rfl | simp [mayB], hB9⟩
              · obtain rfl : bad = true := by rw [← hbad]; rfl
                go_wp2_with fail
                go_ret
                exact ⟨by first | rfl | simp [mayB], hB6⟩
      case false =>
        have hrd5 := (hrd5.below hx12 (Nat.le_refl _)).more hx12.size
        have hrd6 := (hrd6.below hx12 (Nat.le_refl _)).more hx12.size
        have bq3 := bq2.keep hx12
        have br3 := br2.keep hx12
        have hB3 := hB2.trans (hx12.mono hB2.size)
        clear q0 q2 r0 r2
        have q0 := bq3.cell (j := 0) rfl
        have q2 := bq3.cell (j := 2) rfl
        have r0 := br3.cell (j := 0) rfl
        have r2 := br3.cell (j := 2) rfl
        go_wp2_with fail
        go_ret
        exact ⟨by first | rfl | simp [mayB], hB3⟩
end
end Go.Proofs.Ytmhhjmncbclihaa
