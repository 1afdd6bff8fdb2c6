/- Walk: the reference's piles: a text put. -/
import Derived.Test.YtbchkaoocobpfaaDoorWPr2
namespace Go.Larder
theorem InjT.snoc {nm : Txt → Txt} {F : List Txt} {t : Txt} (h : InjT nm F) (hn : lookT nm F (nm t) = none) : InjT nm (F ++ [t]) := by
  intro s1 h1 u1 h2 e
  rcases List.mem_append.1 h1 with k1 | k1 <;> rcases List.mem_append.1 h2 with k2 | k2
  · exact h s1 k1 u1 k2 e
  · simp only [List.mem_singleton] at k2
    rw [k2] at e
    exact absurd e (lookT_none hn s1 k1)
  · simp only [List.mem_singleton] at k1
    rw [k1] at e
    exact absurd e.symm (lookT_none hn u1 k2)
  · simp only [List.mem_singleton] at k1 k2
    rw [k1, k2]
theorem nodup_at {D : List Txt} (hn : D.Nodup) {i : Nat} {t : Txt} (ht : D[i]? = some t) : t ∉ D.take i := by
  intro hm
  obtain ⟨j, hj, e⟩ := List.getElem_of_mem hm
  rw [List.length_take] at hj
  rw [List.getElem_take] at e
  have hi : i < D.length := by
    by_cases h : i < D.length
    · exact h
    · rw [List.getElem?_eq_none (by omega)] at ht; cases ht
  have h2 : D[i] = t := by rw [List.getElem?_eq_getElem hi] at ht; injection ht
  have h3 := List.pairwise_iff_getElem.1 hn j i (by omega) hi (by omega)
  exact h3 (e.trans h2.symm)
theorem injT_iff {nm : Txt → Txt} {l : List Txt} : InjT nm (distT l) ↔ InjT nm l :=
  ⟨fun h => h.sub fun _ hx => mem_distT.2 hx, fun h => h.sub fun _ hx => mem_distT.1 hx⟩
end Go.Larder
namespace Go.Proofs.YtbchkaoocobpfaaDoor
open Go.RowKit Go.Larder
set_option linter.unusedVariables false
set_option linter.unusedSimpArgs false
variable {w w' : World} {c room cap : Nat} {A : Option Addr} {all l : List Txt}
/-- a text asked for among these -/
theorem look_texts {wr : World} {gf : Nat} {F : List Txt} (h : Larder.MapAt wr gf (mapF nmT F)) (n : Txt) :
    (Instr.lookup 86 (.map (some gf)) (S n) false).run Tryd.prog wr = .ok (S ((lookT nmT F n).getD [])) wr := by
  have hz : (zeroValue 9).run Tryd.prog wr = .ok (S []) wr := by kernel_rfl
  cases h2 : lookT nmT F n with
  | none => exact run_lookup_none (P := Tryd.prog) Tryd.underlying86 Tryd.underlying9 h n false hz (by rw [getM_mapF, h2]; rfl)
  | some t => exact run_lookup_S (P := Tryd.prog) (i := 0) Tryd.underlying86 Tryd.underlying9 h n false (by rw [getM_mapF, h2]; rfl)
/-- what put leaves, the reference's -/
def RpPutO (w : World) (c room : Nat) (A : Option Addr) (all cs : List Txt) (G : Int) (e : Ending) (w' : World) : Prop :=
  ∃ names A2 c2, e = .returned (.tuple #[.slice A2 names.length c2, .int .i64 G]) ∧ OwnL encS w' w.heap.size 9 A2 c2 names ∧ (G = 0 → names = cs.map nmT) ∧ (G ≠ 0 → names = []) ∧
    (∃ A3 cap3, RfP w' c room A3 cap3 (if G = 0 then all ++ cs else all) ∧ ∀ j, FRp c A3 j → FRp c A j ∨ w.heap.size ≤ j) ∧ SameBut (fun j => j = c) w w'
theorem RpPutO.err {cs : List Txt} {G : Int} (hG : G ≠ 0) (h : RfP w c room A cap all) (hb : Below w.heap.size w w') : RpPutO w c room A all cs G (.returned (.tuple #[.slice none 0 0, .int .i64 G])) w' :=
  ⟨[], none, 0, rfl, OwnL.nil _ _ _, fun h0 => absurd h0 hG, fun _ => rfl, ⟨A, cap, by rw [if_neg hG]; exact h.keep hb, fun j hj => .inl hj⟩, (Larder.Below.same hb).mono (fun j hj h2 => absurd h2 (by omega))⟩
set_option maxHeartbeats 8000000 in
set_option maxRecDepth 100000 in
theorem w_RpPut (s : Txt) (hs : s.length ≤ 5000) (hrm : room ≤ 1000000) (hl : all.length ≤ 2000000) (hsm : sumT all ≤ 90000000) (h5 : ∀ t ∈ all, t.length ≤ 5000 ∧ t ≠ []) (hA : ∀ W, SameBut (fun j => j = c) w W → AS W) (G : Int) (h : RfP w c room A cap all)
    (hG9 : ¬ InjT nmT (all ++ cutC s) → G = 9)
    (hG6 : InjT nmT (all ++ cutC s) → room < usedT (all ++ cutC s) ∨ 10000 < manyT (all ++ cutC s) → G = 6)
    (hG0 : InjT nmT (all ++ cutC s) → ¬ (room < usedT (all ++ cutC s) ∨ 10000 < manyT (all ++ cutC s)) → G = 0) :
    Calls Tryd.prog 17 #[pgP c, S s] w (RpPutO w c room A all (cutC s) G) := by
  have hAk : ∀ W, Below w.heap.size w W → AS W := fun W hW => hA W ((Larder.Below.same hW).mono fun j hj h2 => absurd h2 (by omega))
  have hcut := fun W => w_CutC s (by omega) W
  have hcn := cutC_cnt s
  have hsum : sumT (cutC s) = s.length := by rw [← sum_flat, cutC_flat]
  have hne := @cutC_ne s
  obtain ⟨cs, hcs⟩ : ∃ cs, cutC s = cs := ⟨_, rfl⟩
  rw [hcs] at hcut hcn hsum hne hG9 hG6 hG0 ⊢
  clear hcs
  have hcl : cs.length ≤ 400 := by omega
  have hs5 : sumT cs ≤ 5000 := by omega
  clear hcn hsum
  have h52 : ∀ t ∈ all ++ cs, t.length ≤ 5000 ∧ t ≠ [] := fun t ht => by
    rcases List.mem_append.1 ht with ht | ht
    · exact h5 t ht
    · exact ⟨by have := sum_mem ht; omega, hne t ht⟩
  have hLs : sumT (all ++ cs) ≤ 100000000 := by rw [sumT_append]; omega
  have hcs5 : ∀ t ∈ cs, t.length ≤ 5000 := fun t ht => by have := sum_mem ht; omega
  have c1 := h.box.cell (j := 1) rfl
  have hcopy := w_CopyP all (by omega) A cap w h.own.read
  have hmm := @run_makeMap Tryd.prog
  have Hh := Lib.hid h
  have HG9 := Lib.hid hG9
  have HG6 := Lib.hid hG6
  have HG0 := Lib.hid hG0
  have H52 := Lib.hid h52
  have Hcs5 := Lib.hid hcs5
  have herr : ∀ G', G' ≠ 0 → G = G' → ∀ W, Below w.heap.size w W → RpPutO w c room A all cs G (.returned (.tuple #[.slice none 0 0, .int .i64 G'])) W := by
    rintro G' h0 rfl W hW
    exact RpPutO.err h0 h hW
  have Herr := Lib.hid herr
  have Hcut := Lib.hid hcut
  clear h hG9 hG6 hG0 h52 h5 hne hcs5 herr
  go_enter Tryd.func17, Tryd.ntmps17
  go_upto_region 4 with (first
    | (go_at_call 41; refine hcopy.mono ?_; rintro e w1 ⟨⟨A1, c1', rfl, how1⟩, hb1⟩)
    | (go_at_call 42; refine (Hcut.out w1).mono ?_; rintro e w2 ⟨A2, c2, rfl, how2, hb2⟩)
    | (at_builtin; refine wpList_app_any encS sl_strQ cs rfl _ _ rfl rfl (how1.below hb2 (Nat.le_refl _)) rfl how2.read (by omega) (by simp only [maxLen]; omega) (Nat.le_trans hb1.size hb2.size) ?_; intro A3 c3 w3 how3 hb3))
  have hB2 := hb1.trans (hb2.mono hb1.size)
  have hB3 := hB2.trans hb3
  obtain ⟨L, hL⟩ : ∃ L, all ++ cs = L := ⟨_, rfl⟩
  have hLl : all.length + cs.length = L.length := by rw [← hL, List.length_append]
  rw [hL] at how3 HG9 HG6 HG0 hLs H52
  rw [hLl]
  have hLn : L.length ≤ 2000400 := by omega
  have Hk := Lib.hid (And.intro hL hLl)
  have hm4 := Larder.MapAt.made w3
  have hb34 := (Below.refl w3.heap.size w3).alloc (Nat.le_refl _) (.map #[] 0)
  have how4 := how3.below hb34 (Nat.le_refl _)
  have hN3 := hB3.size
  have how3l := how3.lt
  clear hcopy hcut hb1 hb2 hb3 hB2 how1 how2 hL hLl how3 c1
  go_upto_region 5 with fail
  generalize w3.alloc (.map #[] 0) = w4 at *
  have hd := w_distinct L (by omega) A3 c3 w4 how4.read
  have hdl := dist_len_le L
  have hD5 : ∀ t ∈ distT L, t.length ≤ 5000 ∧ t ≠ [] := fun t ht => H52.out t (mem_distT.1 ht)
  have hDn := nodup_distT L
  have hDi := @injT_iff nmT L
  have hB4 := hB3.trans (hb34.mono hN3)
  obtain ⟨D, hD⟩ : ∃ D, distT L = D := ⟨_, rfl⟩
  rw [hD] at hd hdl hD5 hDn hDi
  have HD := Lib.hid hD
  have HD5 := Lib.hid hD5
  have HDn := Lib.hid hDn
  have HDi := Lib.hid hDi
  clear hD hD5 hDn hDi
  go_upto_region 6 with (go_at_call 43; refine hd.mono ?_; rintro e w5 ⟨⟨A5, c5, rfl, how5⟩, hb5⟩)
  have hm5 := hm4.keep hb5
  have hB5 := hB4.trans (hb5.mono (Nat.le_trans hN3 hb34.size))
  have hg4 : w3.heap.size < w4.heap.size := hm4.lt
  clear hd hm4
  go_loopw [30] (fun i' wr => ∃ (i : Nat), i' = .int .i64 i ∧ i ≤ D.length ∧ Larder.MapAt wr w3.heap.size (mapF nmT (D.take i)) ∧ Hid (InjT nmT (D.take i)) ∧ SameBut (fun j => j = w3.heap.size ∨ w5.heap.size ≤ j) w5 wr) (fun i' _ => D.length - (intOf i').toNat)
  case atStart => exact ⟨0, rfl, by omega, hm5, Lib.hid (by intro s1 h1; simp at h1), SameBut.refl _⟩
  case round =>
    clear hm5
    obtain ⟨i, rfl, hi2, hmap, hinj, hsb⟩ := hrel
    obtain ⟨wo, hwo⟩ : ∃ wo, wo = wr := ⟨_, rfl⟩
    subst hwo
    have hbel : Below w.heap.size w wo := hB5.trans (hsb.toBelow hB5.size (fun j hj h0 => by have := hB5.size; omega))
    by_cases hlt : i < D.length
    · obtain ⟨t, ht, hd⟩ := drop_step hlt
      have how6 := hsb.own how5 (fun a ha h0 => by have h1 := how5.lt a ha; omega)
      obtain ⟨g0, off0, hA0, hgb0, hc0⟩ := how6.read.at_S ht
      obtain ⟨hn1, hn2⟩ := w_nmR t (HD5.out t (List.mem_of_getElem? ht)).1 wo (hAk wo hbel)
      have htk : D.take (i + 1) = D.take i ++ [t] := by rw [List.take_add_one, ht]; rfl
      have hlk := fun W (hW : Larder.MapAt W w3.heap.size (mapF nmT (D.take i))) => look_texts hW (nmT t)
      have hno := nodup_at HDn.out ht
      have htD := List.mem_of_getElem? ht
      cases hF : lookT nmT (D.take i) (nmT t) with
      | some x =>
        rw [hF] at hlk
        simp only [Option.getD_some] at hlk
        obtain ⟨hx1, hx2⟩ := lookT_some hF
        have hxD := List.mem_of_mem_take hx1
        have hxe : (x == []) = false := by simpa using (HD5.out x hxD).2
        have H9 := Lib.hid (show G = 9 from HG9.out fun hc => hno (by rw [← HDi.out.2 hc x hxD t htD hx2]; exact hx1))
        obtain ⟨nt, hnt⟩ : ∃ nt, nmT t = nt := ⟨_, rfl⟩
        rw [hnt] at hlk hn2
        subst hA0
        clear ht hd htk hno htD hF hx1 hx2 hxD hnt how6
        go_upto_region 9 with (first
          | (go_at_call 9; refine hn1.mono ?_; rintro e w7 ⟨rfl, hb7⟩)
          | (go_at_call 12; refine (hn2 _).mono ?_; rintro e w8 ⟨rfl, hb8⟩))
        have hb78 := hb7.trans (hb8.mono hb7.size)
        have hlk8 := hlk w8 (hmap.keep hb78)
        have hbel8 := hbel.trans (hb78.mono hbel.size)
        clear hlk hmap hn1 hn2
        go_wp2_with fail
        go_ret2
        exact Herr.out 9 (by decide) H9.out w8 hbel8
      | none =>
        rw [hF] at hlk
        simp only [Option.getD_none] at hlk
        have Hput := Lib.hid (putM_mapF hF)
        have Hinj := Lib.hid (show InjT nmT (D.take (i + 1)) from by rw [htk]; exact hinj.out.snoc hF)
        have Htk := Lib.hid htk
        obtain ⟨nt, hnt⟩ : ∃ nt, nmT t = nt := ⟨_, rfl⟩
        rw [hnt] at hlk hn2 Hput
        subst hA0
        clear ht hd htk hno htD hF hnt how6
        go_upto_region 9 with (first
          | (go_at_call 9; refine hn1.mono ?_; rintro e w7 ⟨rfl, hb7⟩)
          | (go_at_call 12; refine (hn2 _).mono ?_; rintro e w8 ⟨rfl, hb8⟩))
        have hb78 := hb7.trans (hb8.mono hb7.size)
        have hmap8 := hmap.keep hb78
        have hlk8 := hlk w8 hmap8
        have hsb8 := hsb.below hb78 (fun j hj h0 => by have := hsb.size; omega)
        clear hlk hmap hn1 hn2
        go_wp2_with (at_mapUpdate; refine wpList_mapPut rfl _ _ _ rfl Tryd.underlying86 Tryd.underlying9 rfl hmap8 nt rfl (S t) rfl ?_; intro w9 hm9 hs9)
        rw [Hput.out] at hm9
        go_roundw
        case rel => exact ⟨i + 1, by go_num, by omega, by rw [Htk.out]; exact hm9, Hinj, hsb8.trans hs9 (fun j hj h0 => .inl h0)⟩
        case measure => simp [intOf]; omega
    · obtain rfl : i = D.length := by omega
      have hij := hinj.out
      rw [List.take_length] at hij
      have Hij := Lib.hid (HDi.out.1 hij)
      have h0 := Hh.out.keep hbel
      have c0 := h0.box.cell (j := 0) rfl
      have how6 := hsb.own (how4.below hb5 (Nat.le_refl _)) (fun a ha h0 => by have h1 := how3l a ha; have := hb5.size; omega)
      clear hij hmap hinj h0
      go_upto_region 14 with fail
      have hq := BoxAt.new wo [.int .i64 (room : Int), .slice A3 L.length c3] 84
      have hq2 := how6.alloc (.cells #[.int .i64 (room : Int), .slice A3 L.length c3] 84)
      have hR : RfP (wo.alloc (.cells #[.int .i64 (room : Int), .slice A3 L.length c3] 84)) wo.heap.size room A3 c3 L := ⟨hq, hq2.base_le (Nat.zero_le _)⟩
      have hb7 := hbel.alloc hbel.size (.cells #[.int .i64 (room : Int), .slice A3 L.length c3] 84)
      have hqn : w.heap.size ≤ wo.heap.size := hbel.size
      clear hq hq2 how6 hbel
      obtain ⟨q, hq⟩ : ∃ q, wo.heap.size = q := ⟨_, rfl⟩
      rw [hq] at hR hqn ⊢
      clear hq
      generalize wo.alloc (.cells #[.int .i64 (room : Int), .slice A3 L.length c3] 84) = w7 at *
      have hbx7 := Hh.out.keep hb7
      have p0 := hbx7.box.cell (j := 0) rfl
      have hb7d : Below w.heap.size w w7.drew := hb7.drew
      have hu := w_RpUsed (w := w7.drew) (by omega) hLs (hR.keep (Below.refl _ _).drew)
      have hm := fun (W : World) (hW : Below w7.heap.size w7 W) => w_RpMany (by omega) (hR.keep hW)
      obtain ⟨us, hus⟩ : ∃ us, usedT L = us := ⟨_, rfl⟩
      obtain ⟨mn, hmn⟩ : ∃ mn, manyT L = mn := ⟨_, rfl⟩
      have hul : us ≤ 100000000 := by rw [← hus]; exact Nat.le_trans (dist_sum_le L) hLs
      have hml : mn ≤ 2000400 := by rw [← hmn]; exact Nat.le_trans (dist_len_le L) (by omega)
      rw [hus] at hu HG6 HG0
      rw [hmn] at hm HG6 HG0
      have hz7 := hb7.size
      clear hus hmn
      have Hbx7 := Lib.hid hbx7
      by_cases hbig1 : (room : Int) < (us : Int)
      · have H6 := Lib.hid (show G = 6 from HG6.out Hij.out (.inl (by omega)))
        clear hm
        first
          | go_region_with (go_at_call 24; refine hu.mono ?_; rintro e w8 ⟨rfl, hb8⟩; have p08 := (Hbx7.out.box.keep (Below.refl _ _).drew |>.keep hb8).cell (j := 0) rfl)
          | fail
        all_goals
          go_wp2_with fail
          go_ret2
          exact Herr.out 6 (by decide) H6.out _ (by first | exact hb7d.trans (hb8.mono hb7d.size) | exact (hb7d.trans (hb8.mono hb7d.size)).drew)
      · by_cases hbig2 : (10000 : Int) < (mn : Int)
        · have H6 := Lib.hid (show G = 6 from HG6.out Hij.out (.inr (by omega)))
          first
            | go_region_with (first
                | (go_at_call 24; refine hu.mono ?_; rintro e w8 ⟨rfl, hb8⟩; have p08 := (Hbx7.out.box.keep (Below.refl _ _).drew |>.keep hb8).cell (j := 0) rfl; have hw8 := (Below.refl w7.heap.size w7).drew.trans hb8; have hm8 := hm w8 hw8)
                | (go_at_call 26; refine hm8.mono ?_; rintro e w9 ⟨rfl, hb9⟩; have hw9 := hw8.trans (hb9.mono hw8.size); have p09 := (Hbx7.out.box.keep hw9).cell (j := 0) rfl))
            | fail
          all_goals
            go_wp2_with fail
            go_ret2
            exact Herr.out 6 (by decide) H6.out _ (by first | exact hb7.trans (hw9.mono hz7) | exact (hb7.trans (hw9.mono hz7)).drew)
        · have H0 := Lib.hid (show G = 0 from HG0.out Hij.out (by omega))
          first
            | go_region_with (first
                | (go_at_call 24; refine hu.mono ?_; rintro e w8 ⟨rfl, hb8⟩; have p08 := (Hbx7.out.box.keep (Below.refl _ _).drew |>.keep hb8).cell (j := 0) rfl; have hw8 := (Below.refl w7.heap.size w7).drew.trans hb8; have hm8 := hm w8 hw8)
                | (go_at_call 26; refine hm8.mono ?_; rintro e w9 ⟨rfl, hb9⟩; have hw9 := hw8.trans (hb9.mono hw8.size); have p09 := (Hbx7.out.box.keep hw9).cell (j := 0) rfl))
            | fail
          all_goals
            have hR9 := hR.keep hw9
            have hP9 := (Hbx7.out.keep hw9).box
            have hb9w := hb7.trans (hw9.mono hz7)
            have f1 := hP9.free 1
            have pc1 := hP9.cell (j := 1) rfl
            clear hR hbx7 p0 p08 p09 hu hm hm8 hb8 hb9 hb7d hw8 hw9
            go_upto_region 17 with fail
            have hw1 : c < w.heap.size := Hh.out.box.lt
            have how10 : OwnL encS (w9.setCell ⟨c, 1, none⟩ (.slice A3 L.length c3)) 0 9 A3 c3 L := hR9.own.keep fun a ha => heap_setCell_other _ _ _ _ (by have := (how3l a ha).1; show a.block ≠ c; omega)
            have hR10 : RfP (w9.setCell ⟨c, 1, none⟩ (.slice A3 L.length c3)) c room A3 c3 L := ⟨hP9.set 1 (.slice A3 L.length c3), how10⟩
            have hs10 : SameBut (fun j => j = c) w (w9.setCell ⟨c, 1, none⟩ (.slice A3 L.length c3)) := ((Larder.Below.same hb9w).mono (fun j hj h2 => absurd h2 (by omega))).setCell ⟨c, 1, none⟩ _ (fun _ => rfl)
            have hz9 := hb9w.size
            have hz10 : w.heap.size ≤ (w9.setCell ⟨c, 1, none⟩ (.slice A3 L.length c3)).heap.size := hs10.size
            clear hR9 hP9 hb9w f1 pc1 how10
            generalize w9.setCell ⟨c, 1, none⟩ (.slice A3 L.length c3) = w10 at *
            go_upto_region 19 with (go_at_call 42; refine (Hcut.out w10).mono ?_; rintro e w11 ⟨A11, c11, rfl, how11, hb11⟩)
            have hb10 : SameBut (fun j => j = c) w w11 := hs10.keep hb11
            go_loopw [12, 71] (fun o' i' wr => ∃ (i : Nat) (A2 : Option Addr) (c2 : Nat), i' = .int .i64 i ∧ o' = .slice A2 ((cs.take i).map nmT).length c2 ∧ i ≤ cs.length ∧ OwnL encS wr w11.heap.size 9 A2 c2 ((cs.take i).map nmT) ∧ Below w11.heap.size w11 wr) (fun _ i' _ => cs.length - (intOf i').toNat)
            case atStart => exact ⟨0, none, 0, rfl, rfl, by omega, OwnL.nil _ _ _, Below.refl _ _⟩
            case round =>
              obtain ⟨i, A2, c2, rfl, rfl, hi2, hown, hbel⟩ := hrel
              obtain ⟨wo, hwo⟩ : ∃ wo, wo = wr := ⟨_, rfl⟩
              subst hwo
              have hsw : SameBut (fun j => j = c) w wo := hb10.below hbel (fun j hj h0 => by have := hb10.size; omega)
              have hz12 := hbel.size
              have hz11 := hb11.size
              by_cases hlt : i < cs.length
              · obtain ⟨t, ht, hd⟩ := drop_step hlt
                obtain ⟨g0, off0, hA0, hgb0, hc0⟩ := (how11.read.below hbel (Nat.le_refl _)).at_S ht
                obtain ⟨hn1, hn2⟩ := w_nmR t (Hcs5.out t (List.mem_of_getElem? ht)) wo (hA wo hsw)
                have htk : (cs.take (i + 1)).map nmT = (cs.take i).map nmT ++ [nmT t] := by rw [List.take_add_one, ht]; simp
                have hll : ((cs.take i).map nmT).length ≤ 400 := by rw [List.length_map, List.length_take]; omega
                obtain ⟨F, hF⟩ : ∃ F, (cs.take i).map nmT = F := ⟨_, rfl⟩
                obtain ⟨nt, hnt⟩ : ∃ nt, nmT t = nt := ⟨_, rfl⟩
                rw [hF] at hown htk hll ⊢
                rw [hnt] at htk hn2
                have Htk := Lib.hid htk
                subst hA0
                clear ht hd htk hF hnt
                go_upto_region 22 with (first
                  | (go_at_call 9; refine hn1.mono ?_; rintro e w13 ⟨rfl, hb13⟩)
                  | (go_at_call 12; refine (hn2 _).mono ?_; rintro e w14 ⟨rfl, hb14⟩; have hown14 := (hown.below hb13 (Nat.le_refl _)).below hb14 (Nat.le_refl _); have hz13 := hb13.size; have hz14 := hb14.size)
                  | (at_builtin; refine wpList_app encS sl_strQ [nt] rfl _ _ rfl rfl hown14 #[S nt] rfl 0 rfl rfl (by omega) (by simp only [maxLen]; omega) (by omega) ?_; intro g15 c15 w15 hown15 hg15 hb15 hbg15))
                go_wp2_with fail
                go_roundw
                case rel => exact ⟨i + 1, some ⟨g15, 0, none⟩, c15, by go_num, by rw [Htk.out]; simp, by omega, by rw [Htk.out]; exact hown15, (hbel.trans ((hb13.trans (hb14.mono hb13.size)).mono hbel.size)).trans hb15⟩
                case measure => simp [intOf]; omega
              · obtain rfl : i = cs.length := by omega
                rw [List.take_length] at hown ⊢
                have hA15 := hR10.own.lt
                have hR15 := (hR10.keep hb11).keep (hbel.mono (Nat.le_refl _))
                go_wp2_with fail
                go_ret2
                refine ⟨cs.map nmT, A2, c2, by rw [H0.out]; rfl, hown.base_le (Nat.le_trans hz10 hz11), fun _ => rfl, fun h0 => absurd H0.out h0, ⟨A3, c3, ?_, fun j hj => ?_⟩, hsw⟩
                · rw [if_pos H0.out, Hk.out.1]; exact hR15
                · rcases hj with rfl | hj
                  · exact .inl (.inl rfl)
                  · refine .inr ?_
                    cases A3 with
                    | none => simp [blkOf] at hj
                    | some a =>
                      have h1 : a.block = j := by simpa [blkOf] using hj
                      have := (how3l a rfl).1
                      omega
end Go.Proofs.YtbchkaoocobpfaaDoor
