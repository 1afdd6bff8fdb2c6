/- Walk: span.Unbundle (under way). -/
import Derived.Test.YtgjikbhehijnaaaDoorWAgr
import Derived.Test.YtgjikbhehijnaaaDoorWCtN
import Derived.Test.YtgjikbhehijnaaaDoorWBun
import Derived.Test.YtgjikbhehijnaaaDoorChg
import Derived.Test.YtgjikbhehijnaaaDoorAppF
import Derived.Deep.RegionHeld3
import Derived.Deep.DeepCutAuto
namespace Go.Proofs.YtgjikbhehijnaaaDoor
open Go.RowKit Go.Larder
set_option linter.unusedVariables false
set_option linter.unusedSimpArgs false
theorem tpre_len (r p : List UInt8) : (Lib.trimPrefix r p).length ≤ r.length := by unfold Lib.trimPrefix; split <;> simp
/-- what the program answers: the parts and the texts, where the text is a bundle that agrees -/
def UnbOut (bd : List UInt8) (z : Int) (s : List UInt8) (w : World) (e : Ending) (w' : World) : Prop :=
  ((∃ (l : List Prt) (A : Option Addr) (c : Nat) (A' : Option Addr) (c' : Nat), (isTok bd && decide (bd.length ≤ 30)) = true ∧ UnbOK bd z s l ∧ e = .returned (.tuple #[.slice A l.length c, .slice A' l.length c', .int .i64 0]) ∧ ReadL encII w' w'.heap.size A (l.map fun x => x.1) ∧ ReadL encS w' w'.heap.size A' (l.map fun x => x.2)) ∨
   (e = .returned (.tuple #[.slice none 0 0, .slice none 0 0, .int .i64 3]) ∧ ¬ ((isTok bd && decide (bd.length ≤ 30)) = true ∧ ∃ l, UnbOK bd z s l))) ∧ Below w.heap.size w w'
theorem unb_read {bd s r : List UInt8} {z : Int} {done l : List Prt} (hat : UnbAt bd z s done r) (hl : UnbOK bd z s l) (hr : r ≠ unbEnd bd) : ∃ a b x r', gOK (goodG z ((a, b), x)) ∧ Lib.hasPrefix r (bunHead bd) = true ∧ Lib.cut (Lib.trimPrefix r (bunHead bd)) CCs = (ctL a b z, x ++ ([13, 10] ++ r'), true) ∧ done.length < 20 := by
  obtain ⟨a, b, x, r', ho, rfl, hd⟩ := hat.next hl hr
  obtain ⟨h1, h2⟩ := pre_app (bunHead bd) (ctL a b z ++ (CCs ++ (x ++ ([13, 10] ++ r'))))
  exact ⟨a, b, x, r', ho, h1, by rw [h2]; exact cut_no13 (ctL_no13 a b z), hd⟩
theorem cut_yes {s p r : List UInt8} (h : Lib.cut s CCs = (p, r, true)) : s = p ++ (CCs ++ r) := by
  unfold Lib.cut at h
  split at h
  · next h0 =>
    obtain ⟨i, hi⟩ : ∃ i : Nat, Lib.index s CCs = (i : Int) := ⟨(Lib.index s CCs).toNat, by omega⟩
    have := (index_true hi).1
    rw [hi] at h
    injection h with h1 h2
    injection h2 with h2 _
    rw [Int.toNat_natCast] at h1 h2
    rw [← h1, ← h2]
    exact this
  · injection h with _ h2
    injection h2 with _ h2
    cases h2
theorem trim_yes {r p : List UInt8} (h : Lib.hasPrefix r p = true) : r = p ++ Lib.trimPrefix r p := by
  unfold Lib.trimPrefix
  rw [if_pos h]
  unfold Lib.hasPrefix at h
  rw [List.isPrefixOf_iff_prefix] at h
  obtain ⟨q, rfl⟩ := h
  rw [List.drop_left]
theorem cut1_le (s : List UInt8) : (Lib.cut s CCs).1.length ≤ s.length := by
  unfold Lib.cut
  split
  · simp only [List.length_take]; exact Nat.min_le_right _ _
  · exact Nat.le_refl _
theorem sl_slcU : SlT Tryd.prog 56 61 2 16 := SlT.mk' (z := .agg #[.int .i64 0, .int .i64 0]) Tryd.underlying56 (by kernel_rfl) rfl
theorem sl_strU : SlT Tryd.prog 22 9 1 16 := SlT.mk' (z := .string ByteArray.empty) Tryd.underlying22 (by kernel_rfl) rfl
set_option maxHeartbeats 8000000 in
set_option maxRecDepth 100000 in
theorem w_Unbundle (bd s : List UInt8) (z : Int) (hs : s.length ≤ 1048576) (hbl : bd.length ≤ 1048576) (w : World) (hE : EV w) (hP : PW w) (hM : ML w) :
    Calls Tryd.prog 28 #[S bd, S s, .int .i64 z] w (UnbOut bd z s w) := by
  have hib := fun w => w_isBoundary bd (by omega) w
  cases hb : (isTok bd && decide (bd.length ≤ 30))
  · rw [hb] at hib
    have Hb := Lib.hid hb
    clear hb
    go_enter Tryd.func28, Tryd.ntmps28
    go_wp2_with (go_at_call 50; refine (hib _).mono ?_; rintro e w' ⟨rfl, rfl⟩)
    go_ret3
    exact ⟨.inr ⟨rfl, fun h => by rw [Hb.out] at h; cases h.1⟩, Below.refl _ _⟩
  · have hb30 : bd.length ≤ 30 := by simp at hb; exact hb.2
    rw [hb] at hib
    have Hb := Lib.hid hb
    clear hb
    go_enter Tryd.func28, Tryd.ntmps28
    go_wp2_with (go_at_call 50; refine (hib _).mono ?_; rintro e w' ⟨rfl, rfl⟩)
    go_loopw [1, 9, 10] (fun s' p' t' wr => ∃ (r : List UInt8) (done : List Prt) (A : Option Addr) (c : Nat) (A' : Option Addr) (c' : Nat), s' = S r ∧ p' = .slice A done.length c ∧ t' = .slice A' done.length c' ∧ r.length ≤ s.length ∧ done.length ≤ 20 ∧ Hid (UnbAt bd z s done r) ∧
      OwnL encII wr w.heap.size 61 A c (done.map fun x => x.1) ∧ OwnL encS wr w.heap.size 9 A' c' (done.map fun x => x.2) ∧ Below w.heap.size w wr) (fun s' _ _ _ => lenOf s')
    case atStart => exact ⟨s, [], none, 0, none, 0, rfl, rfl, rfl, Nat.le_refl _, by simp, Lib.hid ⟨rfl, fun x hx => by cases hx⟩, OwnL.nil _ _ _, OwnL.nil _ _ _, Below.refl _ _⟩
    case round =>
      obtain ⟨r, done, A, c, A', c', rfl, rfl, rfl, hrs, hdl, hat, hop, hot, hbel⟩ := hrel
      obtain ⟨wo, hwo⟩ : ∃ wo, wo = wr := ⟨_, rfl⟩
      subst hwo
      by_cases hend : r = unbEnd bd
      · subst hend
        have hendB : (unbEnd bd == (45 :: 45 :: (bd ++ [45, 45, 13, 10]))) = true := by simp [unbEnd]
        have hrd := hop.read
        have hrd' := hot.read
        have Hone := Lib.hid (show ∀ l, UnbOK bd z s l → l = done from fun l hl => UnbAt.end_ hat.out hl)
        have Hbd := Lib.hid (show ∀ x ∈ done, 0 ≤ x.1.1 ∧ x.1.1 ≤ 99999 ∧ x.2.length ≤ 99999 from fun x hx => by
          have h := hat.out.ok x hx
          obtain ⟨h1, h2, _⟩ := h
          simp only [goodG] at h1 h2
          simp only [ctOK, Bool.and_eq_true, decide_eq_true_eq] at h1
          omega)
        by_cases h0 : 1 ≤ done.length
        · have h0i : ((done.length : Int) == 0) = false := by simp; intro h; simp [h] at h0
          have h0j : ¬ (done.length = 0) := by omega
          have hag := w_agree done hdl Hbd.out A A' c c' wo hrd hrd'
          go_wp2_with fail
          refine hag.mono ?_
          rintro e w1 ⟨⟨b, rfl, hba⟩, hb1⟩
          have Hba := Lib.hid hba
          clear hba
          have hB := hbel.trans (hb1.mono hbel.size)
          have hrd1 := (hrd.below hb1 (Nat.le_refl _)).more hb1.size
          have hrd1' := (hrd'.below hb1 (Nat.le_refl _)).more hb1.size
          cases b
          · go_wp2_with fail
            go_ret3
            exact ⟨.inr ⟨rfl, fun h => by obtain ⟨_, l, hl⟩ := h; have h2 := hl.agree; rw [Hone.out l hl, ← Hba.out] at h2; cases h2⟩, hB⟩
          · go_wp2_with fail
            go_ret3
            exact ⟨.inl ⟨done, A, c, A', c', Hb.out, ⟨hat.out.enc, hat.out.ok, h0, hdl, by have := Hba.out; simpa using this⟩, rfl, hrd1, hrd1'⟩, hB⟩
        · obtain rfl : done = [] := List.eq_nil_of_length_eq_zero (by omega)
          go_wp2_with fail
          go_ret3
          exact ⟨.inr ⟨rfl, fun h => by obtain ⟨_, l, hl⟩ := h; have h2 := hl.one; rw [Hone.out l hl] at h2; simp at h2⟩, hbel⟩
      · have hendB : (r == (45 :: 45 :: (bd ++ [45, 45, 13, 10]))) = false := by
          have h := hend
          simp only [unbEnd, List.append_assoc, List.cons_append, List.nil_append] at h
          simpa using h
        have hh : bunHead bd = 45 :: 45 :: (bd ++ [13, 10, 67, 111, 110, 116, 101, 110, 116, 45, 82, 97, 110, 103, 101, 58, 32]) := by simp [bunHead]
        have hcp := fun W => w_CutPre r (bunHead bd) W
        have hct := fun W hMW => w_Cut (Lib.trimPrefix r (bunHead bd)) CCs (by have := tpre_len r (bunHead bd); omega) W hMW
        have htl := tpre_len r (bunHead bd)
        have hcl : (Lib.cut (Lib.trimPrefix r (bunHead bd)) CCs).1.length ≤ r.length := Nat.le_trans (cut1_le _) htl
        rw [hh] at hcp
        generalize hi : Lib.hasPrefix r (45 :: 45 :: (bd ++ [13, 10, 67, 111, 110, 116, 101, 110, 116, 45, 82, 97, 110, 103, 101, 58, 32])) = is at *
        rw [← hh] at hcp
        generalize hr0 : Lib.trimPrefix r (bunHead bd) = r0 at *
        generalize hcu : Lib.cut r0 CCs = cu at *
        obtain ⟨told, rest, ends⟩ := cu
        simp only at hct hcl
        have Hi := Lib.hid hi
        have Hr0 := Lib.hid hr0
        have Hcu := Lib.hid hcu
        rw [hh] at hcp
        clear hi hr0 hcu hh
        go_wp2_with fail
        refine (hcp _).mono ?_
        rintro e w1 ⟨rfl, hb1⟩
        have hB1 := hbel.trans (hb1.mono hbel.size)
        go_wp2_with fail
        refine (hct _ (hM.keep hB1)).mono ?_
        rintro e w2 ⟨rfl, hb2⟩
        have hB2 := hB1.trans (hb2.mono hB1.size)
        have hpc := w_PcParse told (by omega) w2 (hE.keep hB2) (hP.keep hB2)
        go_wp2_with fail
        refine hpc.mono ?_
        rintro e w3 ⟨⟨a, b, z2, hc, rfl⟩ | ⟨rfl, hno⟩, hb3⟩
        · obtain ⟨hc1, hc2⟩ := hc
          have hcb := ctOK_iff.1 hc1
          have Hrd := Lib.hid (show ∀ l, UnbOK bd z s l → ∃ x r', z2 = z ∧ is = true ∧ ends = true ∧ rest = x ++ ([13, 10] ++ r') ∧ x.length = (b - a).toNat ∧ done.length < 20 from fun l hl => by
            obtain ⟨a1, b1, x, r', ho, h1, h2, h3⟩ := unb_read hat.out hl hend
            rw [Hr0.out, Hcu.out] at h2
            injection h2 with h2 h4
            injection h4 with h4 h5
            obtain ⟨q1, q2, q3⟩ := ct_unique (s := told) ⟨hc1, hc2⟩ ⟨ho.1, h2.symm⟩
            subst q1 q2
            exact ⟨x, r', q3, by rw [← Hi.out]; simpa [bunHead] using h1, h5, h4, ho.2.1, h3⟩)
          have Hnxt := Lib.hid (show is = true → ends = true → z2 = z → ∀ n : Nat, b = a + n → n + 2 ≤ rest.length → List.take 2 (List.drop n rest) = [13, 10] → UnbAt bd z s (done ++ [((a, b), rest.take n)]) (rest.drop (n + 2)) from by
            intro g1 g2 g3 n hn hl ht
            subst g3
            refine hat.out.step (x := rest.take n) ⟨hc1, by simp [goodG]; omega, rfl⟩ ?_
            have e1 : r = bunHead bd ++ r0 := by
              rw [← Hr0.out]
              exact trim_yes (by rw [← g1, ← Hi.out]; simp [bunHead])
            have e2 : r0 = told ++ (CCs ++ rest) := cut_yes (by rw [Hcu.out, g2])
            have e3 : rest = rest.take n ++ ([13, 10] ++ rest.drop (n + 2)) := by
              conv => lhs; rw [← List.take_append_drop n rest, ← List.take_append_drop 2 (rest.drop n), ht, List.drop_drop]
            rw [e1, e2]
            conv => lhs; rw [e3, ← hc2])
          clear hc1 hc2
          cases is
          · go_wp2_with fail
            go_ret3
            exact ⟨.inr ⟨rfl, fun h => by
              obtain ⟨_, l, hl⟩ := h
              obtain ⟨x, r', h1, h2, h3, h4, h5, h6⟩ := Hrd.out l hl
              cases h2⟩, (hB2.trans (hb3.mono hB2.size)).alloc (by have := hB2.size; have := hb3.size; omega) _⟩
          · cases ends
            · go_wp2_with fail
              go_ret3
              exact ⟨.inr ⟨rfl, fun h => by
                obtain ⟨_, l, hl⟩ := h
                obtain ⟨x, r', h1, h2, h3, h4, h5, h6⟩ := Hrd.out l hl
                cases h3⟩, (hB2.trans (hb3.mono hB2.size)).alloc (by have := hB2.size; have := hb3.size; omega) _⟩
            · by_cases hz : z2 = z
              · subst hz
                have hzB : (z2 == z2) = true := by simp
                obtain ⟨n, hn⟩ : ∃ n : Nat, b - a = (n : Int) := ⟨(b - a).toNat, by omega⟩
                obtain rfl : b = a + n := by omega
                have Hnx := Lib.hid (Hnxt.out rfl rfl rfl n rfl)
                have hrl : rest.length + 4 ≤ r.length := by
                  have h := congrArg List.length (cut_yes Hcu.out)
                  simp at h; omega
                by_cases hlen : n + 2 ≤ rest.length
                · go_wp2_with fail
                  · rename_i hm
                    go_ret3
                    exact ⟨.inr ⟨rfl, fun h => by
                      obtain ⟨_, l, hl⟩ := h
                      obtain ⟨x, r', h1, h2, h3, h4, h5, h6⟩ := Hrd.out l hl
                      rcases hm with hm | hm
                      · omega
                      · simp at hm; omega⟩, (hB2.trans (hb3.mono hB2.size)).alloc (by have := hB2.size; have := hb3.size; omega) _⟩
                  · -- the drawn region
                    have hd20 : done.length + 1 ≤ 20 := by
                      have h := (‹(n : Int) + 2 ≤ (rest.length : Int) ∧ ((done.length : Int) == 20) = false›).2
                      simp at h; omega
                    have hnl : n ≤ rest.length := by omega
                    have hb123 : Below wo.heap.size wo w3 := (hb1.trans (hb2.mono hb1.size)).trans (hb3.mono (Nat.le_trans hb1.size hb2.size))
                    have hP := hop.keep (w' := w3) fun a ha => hb123.block a.block (hop.lt a ha).2
                    have hT := hot.keep (w' := w3) fun a ha => hb123.block a.block (hot.lt a ha).2
                    have hPlt := fun a ha => (hP.lt a ha).2
                    have hB := hB2.trans (hb3.mono hB2.size)
                    have hP := (hP.alc (.cells #[.int .i64 a, .int .i64 (a + n)] 61)).drw
                    have hT := (hT.alc (.cells #[.int .i64 a, .int .i64 (a + n)] 61)).drw
                    have hX := (BoxAt.new w3 [.int .i64 a, .int .i64 (a + n)] 61).drew
                    have hB := (hB.alloc hB.size (.cells #[.int .i64 a, .int .i64 (a + n)] 61)).drew
                    have Hnx := Lib.hid (Hnx.out hlen ‹List.take 2 (List.drop n rest) = [13, 10]›)
                    refine wp_region_held_drew (S := (fun W => W.cell? ⟨w3.heap.size, 0, none⟩ = some (.int .i64 a) ∧ W.cell? ⟨w3.heap.size, 1, none⟩ = some (.int .i64 (a + n)))) (by kernel_rfl) ⟨hX.cell (j := 0) rfl, hX.cell (j := 1) rfl⟩ (fun hHeld => ?_)
                    refine wpAnyH_take (i := 0) (v := ?_) rfl (by kernel_rfl) (by kernel_rfl) (by kernel_rfl) (fun _ _ _ h => h) (Or.inl ⟨by rfl, by (intro W hSw; (try dsimp only at hSw); go_simp; try (with_reducible rfl))⟩) (by assumption) ?_
                    try simp only [Act.put, List.setIfInBounds_toArray, List.set_cons_zero, List.set_cons_succ]
                    refine wpAnyH_take (i := 1) (v := ?_) rfl (by kernel_rfl) (by kernel_rfl) (by kernel_rfl) (fun _ _ _ h => h) (Or.inl ⟨by rfl, by (intro W hSw; (try dsimp only at hSw); go_simp; try (with_reducible rfl))⟩) (by assumption) ?_
                    try simp only [Act.put, List.setIfInBounds_toArray, List.set_cons_zero, List.set_cons_succ]
                    refine wpAnyH_take (i := 4) (v := ?_) rfl (by kernel_rfl) (by kernel_rfl) (by kernel_rfl) (fun _ _ _ h => h) (Or.inl ⟨by rfl, by (intro W hSw; (try dsimp only at hSw); go_simp; try (with_reducible rfl))⟩) (by assumption) ?_
                    try simp only [Act.put, List.setIfInBounds_toArray, List.set_cons_zero, List.set_cons_succ]
                    refine wpAnyH_take (i := 5) (v := ?_) rfl (by kernel_rfl) (by kernel_rfl) (by kernel_rfl) (fun _ _ _ h => h) (Or.inl ⟨by rfl, by (intro W hSw; (try dsimp only at hSw); go_simp; try (with_reducible rfl))⟩) (by assumption) ?_
                    try simp only [Act.put, List.setIfInBounds_toArray, List.set_cons_zero, List.set_cons_succ]
                    refine wpAnyH_take (i := 6) (v := ?_) rfl (by kernel_rfl) (by kernel_rfl) (by kernel_rfl) (fun _ _ _ h => h) (Or.inl ⟨by rfl, by (intro W hSw; (try dsimp only at hSw); go_simp; try (with_reducible rfl))⟩) (by assumption) ?_
                    try simp only [Act.put, List.setIfInBounds_toArray, List.set_cons_zero, List.set_cons_succ]
                    refine wpAnyH_take (i := 7) (v := ?_) rfl (by kernel_rfl) (by kernel_rfl) (by kernel_rfl) (fun _ _ _ h => h) (Or.inl ⟨by rfl, by (intro W hSw; (try dsimp only at hSw); go_simp; try (with_reducible rfl))⟩) (by assumption) ?_
                    try simp only [Act.put, List.setIfInBounds_toArray, List.set_cons_zero, List.set_cons_succ]
                    refine wpAnyH_ready (rs := [2, 8]) (by kernel_rfl) (by simp) ?_
                    refine AllReadyH.cons rfl (fun K hK => ?_) ?_
                    · (have lP := own_lit (E := encII) (w3.alloc (.cells #[.int .i64 a, .int .i64 (a + n)] 61)).drew w.heap.size 61 #[.int .i64 a, .int .i64 (a + n)] [((a, a + (n : Int)) : Int × Int)] rfl hB.size (by simp [maxLen]); rw [show (w3.alloc (.cells #[.int .i64 a, .int .i64 (a + n)] 61)).drew.heap.size = w3.heap.size + 1 from by simp [heap_drew]] at lP; have hP := hP.alc (.cells #[.int .i64 a, .int .i64 (a + n)] 61); have hT := hT.alc (.cells #[.int .i64 a, .int .i64 (a + n)] 61); have hX := hX.alloc (.cells #[.int .i64 a, .int .i64 (a + n)] 61); have hB := hB.alloc hB.size (.cells #[.int .i64 a, .int .i64 (a + n)] 61); (go_simp; (try go_wp2_with fail)))
                      refine hK.out _ _ ⟨hX.cell (j := 0) rfl, hX.cell (j := 1) rfl⟩ (fun hHeld => ?_)
                      clear hK K
                      try simp only [Act.put, List.setIfInBounds_toArray, List.set_cons_zero, List.set_cons_succ]
                      refine wpAnyH_ready (rs := [3, 8]) (by kernel_rfl) (by simp) ?_
                      refine AllReadyH.cons rfl (fun K hK => ?_) ?_
                      · (refine step_app_atn (base := w.heap.size) encII sl_slcU [((a, a + (n : Int)) : Int × Int)] (by rfl) _ _ (by rfl) (l := (done.map fun x => x.1)) (by rfl) hP (by rfl) lP.read (by simp) rfl (by simp; omega) (by simp [maxLen]; omega) hB.size ?_; intro A3 c3 u3 h1 hg hb; have hO := hT.grn hg (OwnL.apart hT hP (by decide)); have hX := hX.grn hg (fun a ha => Nat.ne_of_lt (hPlt a ha)); have hB := hB.trans hb; clear hb hg hP hT; have hP := h1; have hT := hO; clear h1 hO)
                        refine hK.out _ _ ⟨hX.cell (j := 0) rfl, hX.cell (j := 1) rfl⟩ (fun hHeld => ?_)
                        clear hK K
                        try simp only [Act.put, List.setIfInBounds_toArray, List.set_cons_zero, List.set_cons_succ]
                        refine wpAnyH_ready (rs := [8]) (by kernel_rfl) (by simp) ?_
                        refine AllReadyH.cons rfl (fun K hK => ?_) ?_
                        · (have lT := own_lit (E := encS) u3 w.heap.size 9 #[S (rest.take n)] [(rest.take n)] rfl hB.size (by simp [maxLen]); have hP := hP.alc (.cells #[S (rest.take n)] 9); have hT := hT.alc (.cells #[S (rest.take n)] 9); have lP := lP.alc (.cells #[S (rest.take n)] 9); have hX := hX.alloc (.cells #[S (rest.take n)] 9); have hB := hB.alloc hB.size (.cells #[S (rest.take n)] 9); (go_simp; (try go_wp2_with fail)))
                          refine hK.out _ _ ⟨hX.cell (j := 0) rfl, hX.cell (j := 1) rfl⟩ (fun hHeld => ?_)
                          clear hK K
                          try simp only [Act.put, List.setIfInBounds_toArray, List.set_cons_zero, List.set_cons_succ]
                          refine wpAnyH_ready (rs := [9]) (by kernel_rfl) (by simp) ?_
                          refine AllReadyH.cons rfl (fun K hK => ?_) ?_
                          · (refine step_app_atn (base := w.heap.size) encS sl_strU [(rest.take n)] (by rfl) _ _ (by rfl) (l := (done.map fun x => x.2)) (by rfl) hT (by rfl) lT.read (by simp) rfl (by simp; omega) (by simp [maxLen]; omega) hB.size ?_; intro A9 c9 u9 h1 hg hb; have hO := hP.grn hg (OwnL.apart hP hT (by decide)); have hX := hX.grn hg (BoxAt.apart hT hX (by decide)); have hB := hB.trans hb; clear hb hg hP hT; have hT := h1; have hP := hO; clear h1 hO)
                            refine hK.out _ _ ⟨hX.cell (j := 0) rfl, hX.cell (j := 1) rfl⟩ (fun hHeld => ?_)
                            clear hK K
                            try simp only [Act.put, List.setIfInBounds_toArray, List.set_cons_zero, List.set_cons_succ]
                            refine wpAnyH_ready (rs := [10]) (by kernel_rfl) (by simp) ?_
                            refine AllReadyH.cons rfl (fun K hK => ?_) ?_
                            · (go_simp; (try go_wp2_with fail))
                              refine hK.out _ _ ⟨hX.cell (j := 0) rfl, hX.cell (j := 1) rfl⟩ (fun hHeld => ?_)
                              clear hK K
                              try simp only [Act.put, List.setIfInBounds_toArray, List.set_cons_zero, List.set_cons_succ]
                              refine wpAnyH_ready (rs := [11]) (by kernel_rfl) (by simp) ?_
                              refine AllReadyH.cons rfl (fun K hK => ?_) ?_
                              · (go_simp; (try go_wp2_with fail))
                                refine hK.out _ _ ⟨hX.cell (j := 0) rfl, hX.cell (j := 1) rfl⟩ (fun hHeld => ?_)
                                clear hK K
                                try simp only [Act.put, List.setIfInBounds_toArray, List.set_cons_zero, List.set_cons_succ]
                                refine wpAnyH_done (by kernel_rfl) ?_ _
                                go_wp2_with fail
                                go_roundw
                                case rel => exact ⟨rest.drop (n + 2), done ++ [((a, a + n), rest.take n)], A3, c3, A9, c9, by rw [List.take_of_length_le (by simp)], by simp, by simp, by have := List.length_drop (i := n + 2) (l := rest); omega, by simp; omega, Hnx, by simpa using hP, by simpa using hT, hB⟩
                                case measure =>
                                  show (List.take _ _).length < r.length
                                  simp; omega
                              exact AllReadyH.nil
                            exact AllReadyH.nil
                          exact AllReadyH.nil
                        exact AllReadyH.nil
                      refine AllReadyH.cons rfl (fun K hK => ?_) ?_
                      · (have lT := own_lit (E := encS) ((w3.alloc (.cells #[.int .i64 a, .int .i64 (a + n)] 61)).drew.alloc (.cells #[.int .i64 a, .int .i64 (a + n)] 61)) w.heap.size 9 #[S (rest.take n)] [(rest.take n)] rfl hB.size (by simp [maxLen]); rw [show ((w3.alloc (.cells #[.int .i64 a, .int .i64 (a + n)] 61)).drew.alloc (.cells #[.int .i64 a, .int .i64 (a + n)] 61)).heap.size = w3.heap.size + 1 + 1 from by simp [heap_drew]] at lT; have hP := hP.alc (.cells #[S (rest.take n)] 9); have hT := hT.alc (.cells #[S (rest.take n)] 9); have lP := lP.alc (.cells #[S (rest.take n)] 9); have hX := hX.alloc (.cells #[S (rest.take n)] 9); have hB := hB.alloc hB.size (.cells #[S (rest.take n)] 9); (go_simp; (try go_wp2_with fail)))
                        refine hK.out _ _ ⟨hX.cell (j := 0) rfl, hX.cell (j := 1) rfl⟩ (fun hHeld => ?_)
                        clear hK K
                        try simp only [Act.put, List.setIfInBounds_toArray, List.set_cons_zero, List.set_cons_succ]
                        refine wpAnyH_ready (rs := [3]) (by kernel_rfl) (by simp) ?_
                        refine AllReadyH.cons rfl (fun K hK => ?_) ?_
                        · (refine step_app_atn (base := w.heap.size) encII sl_slcU [((a, a + (n : Int)) : Int × Int)] (by rfl) _ _ (by rfl) (l := (done.map fun x => x.1)) (by rfl) hP (by rfl) lP.read (by simp) rfl (by simp; omega) (by simp [maxLen]; omega) hB.size ?_; intro A3 c3 u3 h1 hg hb; have hO := hT.grn hg (OwnL.apart hT hP (by decide)); have lT := lT.grn hg (OwnL.apart lT hP (by decide)); have hX := hX.grn hg (fun a ha => Nat.ne_of_lt (hPlt a ha)); have hB := hB.trans hb; clear hb hg hP hT; have hP := h1; have hT := hO; clear h1 hO)
                          refine hK.out _ _ ⟨hX.cell (j := 0) rfl, hX.cell (j := 1) rfl⟩ (fun hHeld => ?_)
                          clear hK K
                          try simp only [Act.put, List.setIfInBounds_toArray, List.set_cons_zero, List.set_cons_succ]
                          refine wpAnyH_ready (rs := [9]) (by kernel_rfl) (by simp) ?_
                          refine AllReadyH.cons rfl (fun K hK => ?_) ?_
                          · (refine step_app_atn (base := w.heap.size) encS sl_strU [(rest.take n)] (by rfl) _ _ (by rfl) (l := (done.map fun x => x.2)) (by rfl) hT (by rfl) lT.read (by simp) rfl (by simp; omega) (by simp [maxLen]; omega) hB.size ?_; intro A9 c9 u9 h1 hg hb; have hO := hP.grn hg (OwnL.apart hP hT (by decide)); have hX := hX.grn hg (BoxAt.apart hT hX (by decide)); have hB := hB.trans hb; clear hb hg hP hT; have hT := h1; have hP := hO; clear h1 hO)
                            refine hK.out _ _ ⟨hX.cell (j := 0) rfl, hX.cell (j := 1) rfl⟩ (fun hHeld => ?_)
                            clear hK K
                            try simp only [Act.put, List.setIfInBounds_toArray, List.set_cons_zero, List.set_cons_succ]
                            refine wpAnyH_ready (rs := [10]) (by kernel_rfl) (by simp) ?_
                            refine AllReadyH.cons rfl (fun K hK => ?_) ?_
                            · (go_simp; (try go_wp2_with fail))
                              refine hK.out _ _ ⟨hX.cell (j := 0) rfl, hX.cell (j := 1) rfl⟩ (fun hHeld => ?_)
                              clear hK K
                              try simp only [Act.put, List.setIfInBounds_toArray, List.set_cons_zero, List.set_cons_succ]
                              refine wpAnyH_ready (rs := [11]) (by kernel_rfl) (by simp) ?_
                              refine AllReadyH.cons rfl (fun K hK => ?_) ?_
                              · (go_simp; (try go_wp2_with fail))
                                refine hK.out _ _ ⟨hX.cell (j := 0) rfl, hX.cell (j := 1) rfl⟩ (fun hHeld => ?_)
                                clear hK K
                                try simp only [Act.put, List.setIfInBounds_toArray, List.set_cons_zero, List.set_cons_succ]
                                refine wpAnyH_done (by kernel_rfl) ?_ _
                                go_wp2_with fail
                                go_roundw
                                case rel => exact ⟨rest.drop (n + 2), done ++ [((a, a + n), rest.take n)], A3, c3, A9, c9, by rw [List.take_of_length_le (by simp)], by simp, by simp, by have := List.length_drop (i := n + 2) (l := rest); omega, by simp; omega, Hnx, by simpa using hP, by simpa using hT, hB⟩
                                case measure =>
                                  show (List.take _ _).length < r.length
                                  simp; omega
                              exact AllReadyH.nil
                            exact AllReadyH.nil
                          exact AllReadyH.nil
                        exact AllReadyH.nil
                      exact AllReadyH.nil
                    refine AllReadyH.cons rfl (fun K hK => ?_) ?_
                    · (have lT := own_lit (E := encS) (w3.alloc (.cells #[.int .i64 a, .int .i64 (a + n)] 61)).drew w.heap.size 9 #[S (rest.take n)] [(rest.take n)] rfl hB.size (by simp [maxLen]); rw [show (w3.alloc (.cells #[.int .i64 a, .int .i64 (a + n)] 61)).drew.heap.size = w3.heap.size + 1 from by simp [heap_drew]] at lT; have hP := hP.alc (.cells #[S (rest.take n)] 9); have hT := hT.alc (.cells #[S (rest.take n)] 9); have hX := hX.alloc (.cells #[S (rest.take n)] 9); have hB := hB.alloc hB.size (.cells #[S (rest.take n)] 9); (go_simp; (try go_wp2_with fail)))
                      refine hK.out _ _ ⟨hX.cell (j := 0) rfl, hX.cell (j := 1) rfl⟩ (fun hHeld => ?_)
                      clear hK K
                      try simp only [Act.put, List.setIfInBounds_toArray, List.set_cons_zero, List.set_cons_succ]
                      refine wpAnyH_ready (rs := [2]) (by kernel_rfl) (by simp) ?_
                      refine AllReadyH.cons rfl (fun K hK => ?_) ?_
                      · (have lP := own_lit (E := encII) ((w3.alloc (.cells #[.int .i64 a, .int .i64 (a + n)] 61)).drew.alloc (.cells #[S (rest.take n)] 9)) w.heap.size 61 #[.int .i64 a, .int .i64 (a + n)] [((a, a + (n : Int)) : Int × Int)] rfl hB.size (by simp [maxLen]); rw [show ((w3.alloc (.cells #[.int .i64 a, .int .i64 (a + n)] 61)).drew.alloc (.cells #[S (rest.take n)] 9)).heap.size = w3.heap.size + 1 + 1 from by simp [heap_drew]] at lP; have hP := hP.alc (.cells #[.int .i64 a, .int .i64 (a + n)] 61); have hT := hT.alc (.cells #[.int .i64 a, .int .i64 (a + n)] 61); have lT := lT.alc (.cells #[.int .i64 a, .int .i64 (a + n)] 61); have hX := hX.alloc (.cells #[.int .i64 a, .int .i64 (a + n)] 61); have hB := hB.alloc hB.size (.cells #[.int .i64 a, .int .i64 (a + n)] 61); (go_simp; (try go_wp2_with fail)))
                        refine hK.out _ _ ⟨hX.cell (j := 0) rfl, hX.cell (j := 1) rfl⟩ (fun hHeld => ?_)
                        clear hK K
                        try simp only [Act.put, List.setIfInBounds_toArray, List.set_cons_zero, List.set_cons_succ]
                        refine wpAnyH_ready (rs := [3]) (by kernel_rfl) (by simp) ?_
                        refine AllReadyH.cons rfl (fun K hK => ?_) ?_
                        · (refine step_app_atn (base := w.heap.size) encII sl_slcU [((a, a + (n : Int)) : Int × Int)] (by rfl) _ _ (by rfl) (l := (done.map fun x => x.1)) (by rfl) hP (by rfl) lP.read (by simp) rfl (by simp; omega) (by simp [maxLen]; omega) hB.size ?_; intro A3 c3 u3 h1 hg hb; have hO := hT.grn hg (OwnL.apart hT hP (by decide)); have lT := lT.grn hg (OwnL.apart lT hP (by decide)); have hX := hX.grn hg (fun a ha => Nat.ne_of_lt (hPlt a ha)); have hB := hB.trans hb; clear hb hg hP hT; have hP := h1; have hT := hO; clear h1 hO)
                          refine hK.out _ _ ⟨hX.cell (j := 0) rfl, hX.cell (j := 1) rfl⟩ (fun hHeld => ?_)
                          clear hK K
                          try simp only [Act.put, List.setIfInBounds_toArray, List.set_cons_zero, List.set_cons_succ]
                          refine wpAnyH_ready (rs := [9]) (by kernel_rfl) (by simp) ?_
                          refine AllReadyH.cons rfl (fun K hK => ?_) ?_
                          · (refine step_app_atn (base := w.heap.size) encS sl_strU [(rest.take n)] (by rfl) _ _ (by rfl) (l := (done.map fun x => x.2)) (by rfl) hT (by rfl) lT.read (by simp) rfl (by simp; omega) (by simp [maxLen]; omega) hB.size ?_; intro A9 c9 u9 h1 hg hb; have hO := hP.grn hg (OwnL.apart hP hT (by decide)); have hX := hX.grn hg (BoxAt.apart hT hX (by decide)); have hB := hB.trans hb; clear hb hg hP hT; have hT := h1; have hP := hO; clear h1 hO)
                            refine hK.out _ _ ⟨hX.cell (j := 0) rfl, hX.cell (j := 1) rfl⟩ (fun hHeld => ?_)
                            clear hK K
                            try simp only [Act.put, List.setIfInBounds_toArray, List.set_cons_zero, List.set_cons_succ]
                            refine wpAnyH_ready (rs := [10]) (by kernel_rfl) (by simp) ?_
                            refine AllReadyH.cons rfl (fun K hK => ?_) ?_
                            · (go_simp; (try go_wp2_with fail))
                              refine hK.out _ _ ⟨hX.cell (j := 0) rfl, hX.cell (j := 1) rfl⟩ (fun hHeld => ?_)
                              clear hK K
                              try simp only [Act.put, List.setIfInBounds_toArray, List.set_cons_zero, List.set_cons_succ]
                              refine wpAnyH_ready (rs := [11]) (by kernel_rfl) (by simp) ?_
                              refine AllReadyH.cons rfl (fun K hK => ?_) ?_
                              · (go_simp; (try go_wp2_with fail))
                                refine hK.out _ _ ⟨hX.cell (j := 0) rfl, hX.cell (j := 1) rfl⟩ (fun hHeld => ?_)
                                clear hK K
                                try simp only [Act.put, List.setIfInBounds_toArray, List.set_cons_zero, List.set_cons_succ]
                                refine wpAnyH_done (by kernel_rfl) ?_ _
                                go_wp2_with fail
                                go_roundw
                                case rel => exact ⟨rest.drop (n + 2), done ++ [((a, a + n), rest.take n)], A3, c3, A9, c9, by rw [List.take_of_length_le (by simp)], by simp, by simp, by have := List.length_drop (i := n + 2) (l := rest); omega, by simp; omega, Hnx, by simpa using hP, by simpa using hT, hB⟩
                                case measure =>
                                  show (List.take _ _).length < r.length
                                  simp; omega
                              exact AllReadyH.nil
                            exact AllReadyH.nil
                          exact AllReadyH.nil
                        exact AllReadyH.nil
                      exact AllReadyH.nil
                    exact AllReadyH.nil
                  · rename_i hm
                    go_ret3
                    exact ⟨.inr ⟨rfl, fun h => by
                      obtain ⟨_, l, hl⟩ := h
                      obtain ⟨x, r', h1, h2, h3, h4, h5, h6⟩ := Hrd.out l hl
                      apply hm; rw [h4, show n = x.length by omega, List.drop_left]; rfl⟩, (hB2.trans (hb3.mono hB2.size)).alloc (by have := hB2.size; have := hb3.size; omega) _⟩
                · go_wp2_with fail
                  go_ret3
                  exact ⟨.inr ⟨rfl, fun h => by
                    obtain ⟨_, l, hl⟩ := h
                    obtain ⟨x, r', h1, h2, h3, h4, h5, h6⟩ := Hrd.out l hl
                    apply hlen; rw [h4, List.length_append, h5]; simp; omega⟩, (hB2.trans (hb3.mono hB2.size)).alloc (by have := hB2.size; have := hb3.size; omega) _⟩
              · have hzB : (z2 == z) = false := by simpa using hz
                go_wp2_with fail
                go_ret3
                exact ⟨.inr ⟨rfl, fun h => by
                  obtain ⟨_, l, hl⟩ := h
                  obtain ⟨x, r', h1, h2, h3, h4, h5, h6⟩ := Hrd.out l hl
                  exact hz h1⟩, (hB2.trans (hb3.mono hB2.size)).alloc (by have := hB2.size; have := hb3.size; omega) _⟩
        · have Hno := Lib.hid (show ¬ ((isTok bd && decide (bd.length ≤ 30)) = true ∧ ∃ l, UnbOK bd z s l) from by
            rintro ⟨_, l, hl⟩
            obtain ⟨a, b, x, r', ho, _, h2, _⟩ := unb_read hat.out hl hend
            rw [Hr0.out, Hcu.out] at h2
            injection h2 with h2 _
            exact hno a b z ⟨ho.1, h2.symm⟩)
          cases is
          · go_wp2_with fail
            go_ret3
            exact ⟨.inr ⟨rfl, Hno.out⟩, (hB2.trans (hb3.mono hB2.size)).alloc (by have := hB2.size; have := hb3.size; omega) _⟩
          · cases ends
            · go_wp2_with fail
              go_ret3
              exact ⟨.inr ⟨rfl, Hno.out⟩, (hB2.trans (hb3.mono hB2.size)).alloc (by have := hB2.size; have := hb3.size; omega) _⟩
            · go_wp2_with fail
              go_ret3
              exact ⟨.inr ⟨rfl, Hno.out⟩, (hB2.trans (hb3.mono hB2.size)).alloc (by have := hB2.size; have := hb3.size; omega) _⟩
end Go.Proofs.YtgjikbhehijnaaaDoor
