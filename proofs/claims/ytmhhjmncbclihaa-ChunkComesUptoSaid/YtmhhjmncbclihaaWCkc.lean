/- Walk: larderlaw.ChunkComes. -/
import Derived.Test.YtmhhjmncbclihaaWChe
import Derived.Test.YtmhhjmncbclihaaSlr
import Derived.Test.YtmhhjmncbclihaaWEq
import Derived.Test.YtmhhjmncbclihaaOpenB
import Derived.Test.YtmhhjmncbclihaaAppF
import Derived.Deep.DeepCutAuto
import Derived.Deep.RegionHeld3
namespace Go.Proofs.Ytmhhjmncbclihaa
open Go.RowKit Go.Larder
set_option linter.unusedVariables false
set_option linter.unusedSimpArgs false
theorem sum_take_le (l : List (List UInt8)) : ∀ i s, l[i]? = some s → ((l.take i).map fun s => s.length + 1).sum + (s.length + 1) ≤ (l.map fun s => s.length + 1).sum := by
  intro i s h
  have h1 : l.take (i + 1) = l.take i ++ [s] := by rw [List.take_add_one, h]; rfl
  have h2 : ((l.take (i + 1)).map fun s => s.length + 1).sum ≤ (l.map fun s => s.length + 1).sum := by
    conv => rhs; rw [← List.take_append_drop (i + 1) l]
    rw [List.map_append, List.sum_append]
    omega
  rw [h1, List.map_append, List.sum_append] at h2
  simpa using h2
theorem CutB.below {w w' : World} {g : Nat} {X : Option Nat} {sum : Nat} {rest : List UInt8} (h : CutB w g X sum rest) (hb : Below w.heap.size w w') : CutB w' g X sum rest := by
  obtain ⟨A, c, bx, own, hX⟩ := h.ex
  exact ⟨A, c, bx.keep hb, own.keep (fun a ha => hb.block a.block (own.lt a ha).2), hX⟩
theorem CutB.lt {w : World} {g : Nat} {X : Option Nat} {sum : Nat} {rest : List UInt8} (h : CutB w g X sum rest) : ∀ b, X = some b → b < w.heap.size := by
  obtain ⟨A, c, bx, own, rfl⟩ := h.ex
  intro b hb
  cases A with
  | none => cases hb
  | some a =>
    have h1 : a.block = b := by simpa [blkOf] using hb
    have := (own.lt a rfl).2
    omega
set_option maxHeartbeats 8000000 in
set_option maxRecDepth 100000 in
theorem w_ChunkComes (l : List (List UInt8)) (hb : (l.map fun s => s.length + 1).sum ≤ 1048576) (ends : List Bool) (hbe : ends.length ≤ 1048576) (A A' : Option Addr) (c c' : Nat) (w : World) (hr : ReadL encL w w.heap.size A l) (hr' : ReadL encBl w w.heap.size A' ends) :
    Calls Try.prog 3 #[.slice A l.length c, .slice A' ends.length c'] w fun e w' => e = .returned (.bool true) ∧ Below w.heap.size w w' := by
  have hn := w_CNew w
  have hll : l.length ≤ 1048576 := by
    have : l.length ≤ (l.map fun s => s.length + 1).sum := by
      clear hb hr
      induction l with
      | nil => simp
      | cons a l ih => simp only [List.length_cons, List.map_cons, List.sum_cons]; omega
    omega
  go_enter Try.func3, Try.ntmps3
  go_wp2_with (go_at_call 10; refine hn.mono ?_; rintro e w1 ⟨rfl, hc1, hb1, hlt1⟩)
  go_loopw [6, 7, 19] (fun a' g' i' wr => ∃ (i : Nat) (all : List UInt8) (sm : Nat) (o : List (List UInt8)) (r : List UInt8) (Y : Option Nat), i' = .int .i64 i ∧ a' = S all ∧ g' = .int .i64 o.length ∧ i ≤ l.length ∧ all.length ≤ ((l.take i).map fun s => s.length + 1).sum ∧ Hid (ck all = (sm, o, r)) ∧ CutB wr w.heap.size Y sm r ∧ (∀ b, Y = some b → w.heap.size < b) ∧ Below w.heap.size w wr ∧ w.heap.size < wr.heap.size)
    (fun _ _ i' _ => l.length - (intOf i').toNat)
  case atStart => exact ⟨0, [], 0, [], [], none, rfl, rfl, rfl, by omega, by simp, Lib.hid rfl, hc1, (fun b h => (by cases h)), hb1, hlt1⟩
  case round =>
    obtain ⟨i, all, sm, o, r, Y, rfl, rfl, rfl, hi, hal, hck, hcb, hY, hbel, hsz⟩ := hrel
    obtain ⟨wo, hwo⟩ : ∃ wo, wo = wr := ⟨_, rfl⟩
    subst hwo
    by_cases hlt : i < l.length
    · obtain ⟨s, hx, hd⟩ := drop_step hlt
      obtain ⟨g, off, rfl, hgb, hc0⟩ := (hr.below hbel (Nat.le_refl _)).at_S hx
      have hsum := sum_take_le l i s hx
      have htake : ((l.take (i + 1)).map fun s => s.length + 1).sum = ((l.take i).map fun s => s.length + 1).sum + (s.length + 1) := by rw [List.take_add_one, hx]; simp
      have hext := Lib.hid (ck_ext (s := s) hck.out)
      have hnew := Lib.hid (new_pieces (s := s) hck.out)
      have hrl := ck_rl all
      have hsl := ck_sl all
      rw [hck.out] at hrl hsl
      simp only at hrl hsl
      have hcut := fun W => w_CutC (all ++ s) (by simp; omega) W
      have hcutx := fun W => w_CutC ((all ++ s) ++ [120]) (by simp; omega) W
      have hwr := fun W hc => w_CWrite w.heap.size Y sm r s (by omega) hsl hrl W hc
      have hcat := fun W => run_cat (P := Try.prog) all s (by omega) (by omega) W
      have hcat2 := fun W => run_cat (P := Try.prog) (all ++ s) [120] (by simp; omega) (by simp) W
      obtain ⟨o2, ho2⟩ : ∃ o2, o ++ (ckAll (sm, [], r) s).2.1 = o2 := ⟨_, rfl⟩
      have hol : o.length ≤ o2.length := by rw [← ho2]; simp
      rw [ho2] at hnew hext
      generalize ckAll (sm, [], r) s = st at *
      obtain ⟨sm2, nw, r2⟩ := st
      simp only at hext hnew hwr
      have hcl := Lib.hid (cutC_length hext.out)
      have hall : (all ++ s).length ≤ 1048576 := by simp; omega
      have hall2 : (all ++ s).length = all.length + s.length := by simp
      generalize all ++ s = all2 at *
      clear hx hd
      go_wp2_with fail
      refine (hcut _).mono ?_
      rintro e w2 ⟨A2, c2, rfl, hown2, hb2⟩
      obtain ⟨pl, hpl⟩ : ∃ pl, (cutC all2).length = pl := ⟨_, rfl⟩
      have hcl2 : pl = o2.length + (tailP r2).length := by rw [← hpl]; exact hcl.out
      have htl : (tailP r2).length ≤ 1 := by unfold tailP; split <;> simp
      have hplb : pl ≤ 1048577 := by have := cutC_cnt all2; omega
      have Hpl := Lib.hid hpl
      have Hcl2 := Lib.hid hcl2
      have Htl := Lib.hid htl
      clear hcl2 htl
      have hgw := hb2.size
      rw [hpl]
      clear hpl
      go_wp2_with fail
      go_loopw [11, 31] (fun n' k' wv => ∃ (k kn : Nat), k' = .int .i64 k ∧ n' = .int .i64 kn ∧ k ≤ pl ∧ Hid (kn = min k o2.length) ∧ Below w2.heap.size w2 wv)
        (fun _ k' _ => pl - (intOf k').toNat)
      case atStart => exact ⟨0, 0, rfl, rfl, by omega, Lib.hid (by omega), Below.refl _ _⟩
      case round =>
        obtain ⟨k, kn, rfl, rfl, hk, hkn, hbv⟩ := hrel
        have hvs := hbv.size
        by_cases hkl : k < pl
        · obtain ⟨p, hp⟩ : ∃ p, (cutC all2)[k]? = some p := ⟨_, List.getElem?_eq_getElem (by rw [Hpl.out]; exact hkl)⟩
          obtain ⟨g2, off2, rfl, hgb2, hcp⟩ := (hown2.read.below hbv (Nat.le_refl _)).at_S hp
          by_cases hk1 : (k : Int) < (pl : Int) - 1
          · have Hkn := Lib.hid (show k + 1 = min (k + 1) o2.length from by have := Hcl2.out; have := Htl.out; omega)
            go_wp2_with fail
            go_roundw
            case rel => exact ⟨k + 1, k + 1, by go_num, by go_num, by omega, Hkn, hbv⟩
            case measure => simp [intOf]; omega
          · rcases nil_or_snoc r2 with rfl | ⟨m, b, rfl⟩
            · have hx1 := cutC_x_len hext.out
              have hx2 := cutC_x_at hext.out hp
              have hcl2 := Hcl2.out
              rw [tailP_nil] at hcl2
              simp only [List.length_nil, Nat.add_zero] at hcl2
              have hI : ((pl : Int) < ((cutC (all2 ++ [120])).length : Int)) := by rw [hx1]; omega
              have Hkn := Lib.hid (show k + 1 = min (k + 1) o2.length from by omega)
              have hkx : k < (cutC (all2 ++ [120])).length := by rw [hx1]; omega
              generalize cutC (all2 ++ [120]) = cx at *
              clear hcl2
              go_wp2_with fail
              refine (hcutx _).mono ?_
              rintro e w3 ⟨A3, c3, rfl, hown3, hb3⟩
              go_wp2_with fail
              refine (hcutx _).mono ?_
              rintro e w4 ⟨A4, c4, rfl, hown4, hb4⟩
              obtain ⟨g4, off4, rfl, hgb4, hc4⟩ := hown4.read.at_S hx2
              go_wp2_with fail
              go_roundw
              case rel => exact ⟨k + 1, k + 1, by go_num, by go_num, by omega, Hkn, hbv.trans ((hb3.trans (hb4.mono hb3.size)).mono hvs)⟩
              case measure => simp [intOf]; omega
            · have hx1 := cutC_x_len hext.out
              have hcl2 := Hcl2.out
              rw [tailP_some (by simp)] at hcl2
              simp only [List.length_cons, List.length_nil, Nat.zero_add] at hcl2
              have hI : ¬ ((pl : Int) < ((cutC (all2 ++ [120])).length : Int)) := by rw [hx1]; omega
              have Hkn := Lib.hid (show kn = min (k + 1) o2.length from by have := hkn.out; omega)
              generalize cutC (all2 ++ [120]) = cx at *
              clear hcl2
              go_wp2_with fail
              refine (hcutx _).mono ?_
              rintro e w3 ⟨A3, c3, rfl, hown3, hb3⟩
              go_wp2_with fail
              go_roundw
              case rel => exact ⟨k + 1, kn, by go_num, rfl, by omega, Hkn, hbv.trans (hb3.mono hvs)⟩
              case measure => simp [intOf]; omega
        · obtain rfl : pl = k := by omega
          obtain rfl : kn = o2.length := by have := hkn.out; have := Hcl2.out; omega
          have hcv := hcb.below (hb2.trans (hbv.mono hgw))
          have hcvd : CutB wr.drew w.heap.size Y sm r := by obtain ⟨⟨A, c, h1, h2, h3⟩⟩ := hcv; exact ⟨A, c, h1, h2, h3⟩
          have hvw := hwr wr.drew hcvd
          have hbw : Below w.heap.size w wr := hbel.trans ((hb2.trans (hbv.mono hgw)).mono hbel.size)
          have hownv : OwnL encL wr.drew wo.heap.size 9 A2 c2 (cutC all2) := (hown2.below hbv (Nat.le_refl _)).drew
          have hle := hown2.le_cap
          rw [Hpl.out] at hle
          have hopl : o2.length ≤ pl := by have := Hcl2.out; omega
          have hnl : o2.length - o.length = nw.length := by rw [← ho2, List.length_append]; omega
          have hnlb : nw.length ≤ 1048577 := by omega
          have hI1 : (o.length : Int) ≤ o2.length := by omega
          have hI2 : (o.length : Int) < o2.length + 1 := by omega
          have hI3 : o2.length ≤ c2 := by omega
          have hI4 : (o2.length : Int) ≤ c2 := by omega
          have hI5 : (0 : Int) ≤ (o.length : Int) := by omega
          have hI6 : (0 : Int) ≤ (o2.length : Int) := by omega
          have hI7 : ¬ (o2.length : Int) < o.length := by omega
          have hI8 : ((o.length : Int)).toNat = o.length := by omega
          have hI9 : ((o2.length : Int)).toNat = o2.length := by omega
          have hYlt := hcb.lt
          have hno : ∀ (a : Addr), A2 = some a → ¬ (a.block = w.heap.size ∨ Y = some a.block) := by
            rintro a ha (h | h)
            · have := (hown2.lt a ha).1; omega
            · have := (hown2.lt a ha).1; have := hYlt _ h; omega
          clear hwr hcut hcutx hcat hcat2 hcv hcvd
          go_wp2_with fail
          go_cut [73] from 63 to 73 (fun s' wx => s' = .bool false ∧ ∃ Y6, CutB wx w.heap.size Y6 sm2 r2 ∧ (Y6 = Y ∨ ∃ b, Y6 = some b ∧ wr.heap.size ≤ b) ∧ wx.os = wr.os ∧ wx.tape = wr.tape ∧ wx.output = wr.output ∧ wr.heap.size ≤ wx.heap.size ∧ ∀ j, j < wr.heap.size → ¬ (j = w.heap.size ∨ Y = some j) → wx.heap[j]? = wr.heap[j]?)
          case first =>
            rcases hown2.form with ⟨rfl, h0, rfl⟩ | ⟨g2, rfl, hg2, _⟩
            · have ho20 : o2.length = 0 := by omega
              obtain rfl : nw = [] := List.length_eq_zero_iff.1 (by omega)
              obtain rfl : o = [] := List.length_eq_zero_iff.1 (by omega)
              obtain rfl : o2 = [] := List.length_eq_zero_iff.1 ho20
              refine wp_region_held_drew (S := (fun _ => True)) (by kernel_rfl) trivial (fun hHeld => ?_)
              refine wpAnyH_take (i := 0) (v := ?_) rfl (by kernel_rfl) (by kernel_rfl) (by kernel_rfl) (fun _ _ _ h => h) (Or.inl ⟨by rfl, by (intro W hSw; (try dsimp only at hSw); go_simp; try (with_reducible rfl))⟩) (by assumption) ?_
              try simp only [Act.put, List.setIfInBounds_toArray, List.set_cons_zero, List.set_cons_succ]
              refine wpAnyH_take (i := 1) (v := ?_) rfl (by kernel_rfl) (by kernel_rfl) (by kernel_rfl) (fun _ _ _ h => h) (Or.inl ⟨by rfl, by (intro W hSw; (try dsimp only at hSw); go_simp; try (with_reducible rfl))⟩) (by assumption) ?_
              try simp only [Act.put, List.setIfInBounds_toArray, List.set_cons_zero, List.set_cons_succ]
              refine wpAnyH_take (i := 3) (v := ?_) rfl (by kernel_rfl) (by kernel_rfl) (by kernel_rfl) (fun _ _ _ h => h) (Or.inl ⟨by rfl, by (intro W hSw; (try dsimp only at hSw); go_simp; try (with_reducible rfl))⟩) (by assumption) ?_
              try simp only [Act.put, List.setIfInBounds_toArray, List.set_cons_zero, List.set_cons_succ]
              refine wpAnyH_take (i := 4) (v := ?_) rfl (by kernel_rfl) (by kernel_rfl) (by kernel_rfl) (fun _ _ _ h => h) (Or.inl ⟨by rfl, by (intro W hSw; (try dsimp only at hSw); go_simp; try (with_reducible rfl))⟩) (by assumption) ?_
              try simp only [Act.put, List.setIfInBounds_toArray, List.set_cons_zero, List.set_cons_succ]
              refine wpAnyH_take (i := 5) (v := ?_) rfl (by kernel_rfl) (by kernel_rfl) (by kernel_rfl) (fun _ _ _ h => h) (Or.inl ⟨by rfl, by (intro W hSw; (try dsimp only at hSw); go_simp; try (with_reducible rfl))⟩) (by assumption) ?_
              try simp only [Act.put, List.setIfInBounds_toArray, List.set_cons_zero, List.set_cons_succ]
              refine wpAnyH_take (i := 6) (v := ?_) rfl (by kernel_rfl) (by kernel_rfl) (by kernel_rfl) (fun _ _ _ h => h) (Or.inl ⟨by rfl, by (intro W hSw; (try dsimp only at hSw); go_simp; try (with_reducible rfl))⟩) (by assumption) ?_
              try simp only [Act.put, List.setIfInBounds_toArray, List.set_cons_zero, List.set_cons_succ]
              refine wpAnyH_take (i := 7) (v := ?_) rfl (by kernel_rfl) (by kernel_rfl) (by kernel_rfl) (fun _ _ _ h => h) (Or.inl ⟨by rfl, by (intro W hSw; (try dsimp only at hSw); go_simp; try (with_reducible rfl))⟩) (by assumption) ?_
              try simp only [Act.put, List.setIfInBounds_toArray, List.set_cons_zero, List.set_cons_succ]
              refine wpAnyH_ready (rs := [2, 8]) (by kernel_rfl) (by simp) ?_
              refine AllReadyH.cons rfl (fun K hK => ?_) ?_
              · (go_simp; go_at_call 13; refine Calls.mono hvw ?_; rintro e w5 ⟨A6, c6, Y6, rfl, hown6, hcb6, hY6, hsb6⟩; have hown7 := hsb6.own hownv hno; have hr7 : ReadL encL w5 w5.heap.size none [] := ReadL.nil; (try go_wp2_with fail))
                refine hK.out _ _ trivial (fun hHeld => ?_)
                clear hK K
                try simp only [Act.put, List.setIfInBounds_toArray, List.set_cons_zero, List.set_cons_succ]
                refine wpAnyH_ready (rs := [8]) (by kernel_rfl) (by simp) ?_
                refine AllReadyH.cons rfl (fun K hK => ?_) ?_
                · (go_simp; (try go_wp2_with fail))
                  refine hK.out _ _ trivial (fun hHeld => ?_)
                  clear hK K
                  try simp only [Act.put, List.setIfInBounds_toArray, List.set_cons_zero, List.set_cons_succ]
                  refine wpAnyH_ready (rs := [9]) (by kernel_rfl) (by simp) ?_
                  refine AllReadyH.cons rfl (fun K hK => ?_) ?_
                  · (go_simp; go_at_call 12; (try simp only [hnl]); refine Calls.mono (w_Eq_string [] (by simp) A6 _ c6 _ _ _ w5 hown6.read hr7) ?_; rintro e w8 ⟨rfl, rfl⟩; (try go_wp2_with fail))
                    refine hK.out _ _ trivial (fun hHeld => ?_)
                    clear hK K
                    try simp only [Act.put, List.setIfInBounds_toArray, List.set_cons_zero, List.set_cons_succ]
                    refine wpAnyH_ready (rs := [10]) (by kernel_rfl) (by simp) ?_
                    refine AllReadyH.cons rfl (fun K hK => ?_) ?_
                    · go_simp
                      refine hK.out _ _ trivial (fun hHeld => ?_)
                      clear hK K
                      try simp only [Act.put, List.setIfInBounds_toArray, List.set_cons_zero, List.set_cons_succ]
                      refine wpAnyH_done (by kernel_rfl) ?_ _
                      go_wp2_with fail
                      go_meet
                      exact ⟨rfl, Y6, hcb6, hY6, hsb6.os, hsb6.tape, hsb6.output, hsb6.size, hsb6.block⟩
                    exact AllReadyH.nil
                  exact AllReadyH.nil
                exact AllReadyH.nil
              refine AllReadyH.cons rfl (fun K hK => ?_) ?_
              · (go_simp; (try go_wp2_with fail))
                refine hK.out _ _ trivial (fun hHeld => ?_)
                clear hK K
                try simp only [Act.put, List.setIfInBounds_toArray, List.set_cons_zero, List.set_cons_succ]
                refine wpAnyH_ready (rs := [2]) (by kernel_rfl) (by simp) ?_
                refine AllReadyH.cons rfl (fun K hK => ?_) ?_
                · (go_simp; go_at_call 13; refine Calls.mono hvw ?_; rintro e w5 ⟨A6, c6, Y6, rfl, hown6, hcb6, hY6, hsb6⟩; have hown7 := hsb6.own hownv hno; have hr7 : ReadL encL w5 w5.heap.size none [] := ReadL.nil; (try go_wp2_with fail))
                  refine hK.out _ _ trivial (fun hHeld => ?_)
                  clear hK K
                  try simp only [Act.put, List.setIfInBounds_toArray, List.set_cons_zero, List.set_cons_succ]
                  refine wpAnyH_ready (rs := [9]) (by kernel_rfl) (by simp) ?_
                  refine AllReadyH.cons rfl (fun K hK => ?_) ?_
                  · (go_simp; go_at_call 12; (try simp only [hnl]); refine Calls.mono (w_Eq_string [] (by simp) A6 _ c6 _ _ _ w5 hown6.read hr7) ?_; rintro e w8 ⟨rfl, rfl⟩; (try go_wp2_with fail))
                    refine hK.out _ _ trivial (fun hHeld => ?_)
                    clear hK K
                    try simp only [Act.put, List.setIfInBounds_toArray, List.set_cons_zero, List.set_cons_succ]
                    refine wpAnyH_ready (rs := [10]) (by kernel_rfl) (by simp) ?_
                    refine AllReadyH.cons rfl (fun K hK => ?_) ?_
                    · go_simp
                      refine hK.out _ _ trivial (fun hHeld => ?_)
                      clear hK K
                      try simp only [Act.put, List.setIfInBounds_toArray, List.set_cons_zero, List.set_cons_succ]
                      refine wpAnyH_done (by kernel_rfl) ?_ _
                      go_wp2_with fail
                      go_meet
                      exact ⟨rfl, Y6, hcb6, hY6, hsb6.os, hsb6.tape, hsb6.output, hsb6.size, hsb6.block⟩
                    exact AllReadyH.nil
                  exact AllReadyH.nil
                exact AllReadyH.nil
              exact AllReadyH.nil
            · by_cases hcA : c2 = o.length
              · obtain rfl : nw = [] := List.length_eq_zero_iff.1 (by omega)
                have hnl2 : o2.length - c2 = 0 := by omega
                subst hcA
                refine wp_region_held_drew (S := (fun _ => True)) (by kernel_rfl) trivial (fun hHeld => ?_)
                refine wpAnyH_take (i := 0) (v := ?_) rfl (by kernel_rfl) (by kernel_rfl) (by kernel_rfl) (fun _ _ _ h => h) (Or.inl ⟨by rfl, by (intro W hSw; (try dsimp only at hSw); go_simp; try (with_reducible rfl))⟩) (by assumption) ?_
                try simp only [Act.put, List.setIfInBounds_toArray, List.set_cons_zero, List.set_cons_succ]
                refine wpAnyH_take (i := 1) (v := ?_) rfl (by kernel_rfl) (by kernel_rfl) (by kernel_rfl) (fun _ _ _ h => h) (Or.inl ⟨by rfl, by (intro W hSw; (try dsimp only at hSw); go_simp; try (with_reducible rfl))⟩) (by assumption) ?_
                try simp only [Act.put, List.setIfInBounds_toArray, List.set_cons_zero, List.set_cons_succ]
                refine wpAnyH_take (i := 3) (v := ?_) rfl (by kernel_rfl) (by kernel_rfl) (by kernel_rfl) (fun _ _ _ h => h) (Or.inl ⟨by rfl, by (intro W hSw; (try dsimp only at hSw); go_simp; try (with_reducible rfl))⟩) (by assumption) ?_
                try simp only [Act.put, List.setIfInBounds_toArray, List.set_cons_zero, List.set_cons_succ]
                refine wpAnyH_take (i := 4) (v := ?_) rfl (by kernel_rfl) (by kernel_rfl) (by kernel_rfl) (fun _ _ _ h => h) (Or.inl ⟨by rfl, by (intro W hSw; (try dsimp only at hSw); go_simp; try (with_reducible rfl))⟩) (by assumption) ?_
                try simp only [Act.put, List.setIfInBounds_toArray, List.set_cons_zero, List.set_cons_succ]
                refine wpAnyH_take (i := 5) (v := ?_) rfl (by kernel_rfl) (by kernel_rfl) (by kernel_rfl) (fun _ _ _ h => h) (Or.inl ⟨by rfl, by (intro W hSw; (try dsimp only at hSw); go_simp; try (with_reducible rfl))⟩) (by assumption) ?_
                try simp only [Act.put, List.setIfInBounds_toArray, List.set_cons_zero, List.set_cons_succ]
                refine wpAnyH_take (i := 6) (v := ?_) rfl (by kernel_rfl) (by kernel_rfl) (by kernel_rfl) (fun _ _ _ h => h) (Or.inl ⟨by rfl, by (intro W hSw; (try dsimp only at hSw); go_simp; try (with_reducible rfl))⟩) (by assumption) ?_
                try simp only [Act.put, List.setIfInBounds_toArray, List.set_cons_zero, List.set_cons_succ]
                refine wpAnyH_take (i := 7) (v := ?_) rfl (by kernel_rfl) (by kernel_rfl) (by kernel_rfl) (fun _ _ _ h => h) (Or.inl ⟨by rfl, by (intro W hSw; (try dsimp only at hSw); go_simp; try (with_reducible rfl))⟩) (by assumption) ?_
                try simp only [Act.put, List.setIfInBounds_toArray, List.set_cons_zero, List.set_cons_succ]
                refine wpAnyH_ready (rs := [2, 8]) (by kernel_rfl) (by simp) ?_
                refine AllReadyH.cons rfl (fun K hK => ?_) ?_
                · (go_simp; go_at_call 13; refine Calls.mono hvw ?_; rintro e w5 ⟨A6, c6, Y6, rfl, hown6, hcb6, hY6, hsb6⟩; have hown7 := hsb6.own hownv hno; have hr7 : ReadL encL w5 w5.heap.size (some ⟨g2, 0, none⟩) [] := ReadL.nil; (try go_wp2_with fail))
                  refine hK.out _ _ trivial (fun hHeld => ?_)
                  clear hK K
                  try simp only [Act.put, List.setIfInBounds_toArray, List.set_cons_zero, List.set_cons_succ]
                  refine wpAnyH_ready (rs := [8]) (by kernel_rfl) (by simp) ?_
                  refine AllReadyH.cons rfl (fun K hK => ?_) ?_
                  · (go_simp; (try go_wp2_with fail))
                    refine hK.out _ _ trivial (fun hHeld => ?_)
                    clear hK K
                    try simp only [Act.put, List.setIfInBounds_toArray, List.set_cons_zero, List.set_cons_succ]
                    refine wpAnyH_ready (rs := [9]) (by kernel_rfl) (by simp) ?_
                    refine AllReadyH.cons rfl (fun K hK => ?_) ?_
                    · (go_simp; go_at_call 12; (try simp only [hnl]); refine Calls.mono (w_Eq_string [] (by simp) A6 _ c6 _ _ _ w5 hown6.read hr7) ?_; rintro e w8 ⟨rfl, rfl⟩; (try go_wp2_with fail))
                      refine hK.out _ _ trivial (fun hHeld => ?_)
                      clear hK K
                      try simp only [Act.put, List.setIfInBounds_toArray, List.set_cons_zero, List.set_cons_succ]
                      refine wpAnyH_ready (rs := [10]) (by kernel_rfl) (by simp) ?_
                      refine AllReadyH.cons rfl (fun K hK => ?_) ?_
                      · go_simp
                        refine hK.out _ _ trivial (fun hHeld => ?_)
                        clear hK K
                        try simp only [Act.put, List.setIfInBounds_toArray, List.set_cons_zero, List.set_cons_succ]
                        refine wpAnyH_done (by kernel_rfl) ?_ _
                        go_wp2_with fail
                        go_meet
                        exact ⟨rfl, Y6, hcb6, hY6, hsb6.os, hsb6.tape, hsb6.output, hsb6.size, hsb6.block⟩
                      exact AllReadyH.nil
                    exact AllReadyH.nil
                  exact AllReadyH.nil
                refine AllReadyH.cons rfl (fun K hK => ?_) ?_
                · (go_simp; (try go_wp2_with fail))
                  refine hK.out _ _ trivial (fun hHeld => ?_)
                  clear hK K
                  try simp only [Act.put, List.setIfInBounds_toArray, List.set_cons_zero, List.set_cons_succ]
                  refine wpAnyH_ready (rs := [2]) (by kernel_rfl) (by simp) ?_
                  refine AllReadyH.cons rfl (fun K hK => ?_) ?_
                  · (go_simp; go_at_call 13; refine Calls.mono hvw ?_; rintro e w5 ⟨A6, c6, Y6, rfl, hown6, hcb6, hY6, hsb6⟩; have hown7 := hsb6.own hownv hno; have hr7 : ReadL encL w5 w5.heap.size (some ⟨g2, 0, none⟩) [] := ReadL.nil; (try go_wp2_with fail))
                    refine hK.out _ _ trivial (fun hHeld => ?_)
                    clear hK K
                    try simp only [Act.put, List.setIfInBounds_toArray, List.set_cons_zero, List.set_cons_succ]
                    refine wpAnyH_ready (rs := [9]) (by kernel_rfl) (by simp) ?_
                    refine AllReadyH.cons rfl (fun K hK => ?_) ?_
                    · (go_simp; go_at_call 12; (try simp only [hnl]); refine Calls.mono (w_Eq_string [] (by simp) A6 _ c6 _ _ _ w5 hown6.read hr7) ?_; rintro e w8 ⟨rfl, rfl⟩; (try go_wp2_with fail))
                      refine hK.out _ _ trivial (fun hHeld => ?_)
                      clear hK K
                      try simp only [Act.put, List.setIfInBounds_toArray, List.set_cons_zero, List.set_cons_succ]
                      refine wpAnyH_ready (rs := [10]) (by kernel_rfl) (by simp) ?_
                      refine AllReadyH.cons rfl (fun K hK => ?_) ?_
                      · go_simp
                        refine hK.out _ _ trivial (fun hHeld => ?_)
                        clear hK K
                        try simp only [Act.put, List.setIfInBounds_toArray, List.set_cons_zero, List.set_cons_succ]
                        refine wpAnyH_done (by kernel_rfl) ?_ _
                        go_wp2_with fail
                        go_meet
                        exact ⟨rfl, Y6, hcb6, hY6, hsb6.os, hsb6.tape, hsb6.output, hsb6.size, hsb6.block⟩
                      exact AllReadyH.nil
                    exact AllReadyH.nil
                  exact AllReadyH.nil
                exact AllReadyH.nil
              · have hr6 : ∀ (W : World), OwnL encL W wo.heap.size 9 (some ⟨g2, 0, none⟩) c2 (cutC all2) → ReadL encL W W.heap.size (some ⟨g2, o.length, none⟩) nw := fun W h => by
                  have := (h.read.drop o.length).take (o2.length - o.length)
                  rw [hnew.out] at this
                  simpa [encL] using this
                refine wp_region_held_drew (S := (fun _ => True)) (by kernel_rfl) trivial (fun hHeld => ?_)
                refine wpAnyH_take (i := 0) (v := ?_) rfl (by kernel_rfl) (by kernel_rfl) (by kernel_rfl) (fun _ _ _ h => h) (Or.inl ⟨by rfl, by (intro W hSw; (try dsimp only at hSw); go_simp; try (with_reducible rfl))⟩) (by assumption) ?_
                try simp only [Act.put, List.setIfInBounds_toArray, List.set_cons_zero, List.set_cons_succ]
                refine wpAnyH_take (i := 1) (v := ?_) rfl (by kernel_rfl) (by kernel_rfl) (by kernel_rfl) (fun _ _ _ h => h) (Or.inl ⟨by rfl, by (intro W hSw; (try dsimp only at hSw); go_simp; try (with_reducible rfl))⟩) (by assumption) ?_
                try simp only [Act.put, List.setIfInBounds_toArray, List.set_cons_zero, List.set_cons_succ]
                refine wpAnyH_take (i := 3) (v := ?_) rfl (by kernel_rfl) (by kernel_rfl) (by kernel_rfl) (fun _ _ _ h => h) (Or.inl ⟨by rfl, by (intro W hSw; (try dsimp only at hSw); go_simp; try (with_reducible rfl))⟩) (by assumption) ?_
                try simp only [Act.put, List.setIfInBounds_toArray, List.set_cons_zero, List.set_cons_succ]
                refine wpAnyH_take (i := 4) (v := ?_) rfl (by kernel_rfl) (by kernel_rfl) (by kernel_rfl) (fun _ _ _ h => h) (Or.inl ⟨by rfl, by (intro W hSw; (try dsimp only at hSw); go_simp; try (with_reducible rfl))⟩) (by assumption) ?_
                try simp only [Act.put, List.setIfInBounds_toArray, List.set_cons_zero, List.set_cons_succ]
                refine wpAnyH_take (i := 5) (v := ?_) rfl (by kernel_rfl) (by kernel_rfl) (by kernel_rfl) (fun _ _ _ h => h) (Or.inl ⟨by rfl, by (intro W hSw; (try dsimp only at hSw); go_simp; try (with_reducible rfl))⟩) (by assumption) ?_
                try simp only [Act.put, List.setIfInBounds_toArray, List.set_cons_zero, List.set_cons_succ]
                refine wpAnyH_take (i := 6) (v := ?_) rfl (by kernel_rfl) (by kernel_rfl) (by kernel_rfl) (fun _ _ _ h => h) (Or.inl ⟨by rfl, by (intro W hSw; (try dsimp only at hSw); go_simp; try (with_reducible rfl))⟩) (by assumption) ?_
                try simp only [Act.put, List.setIfInBounds_toArray, List.set_cons_zero, List.set_cons_succ]
                refine wpAnyH_take (i := 7) (v := ?_) rfl (by kernel_rfl) (by kernel_rfl) (by kernel_rfl) (fun _ _ _ h => h) (Or.inl ⟨by rfl, by (intro W hSw; (try dsimp only at hSw); go_simp; try (with_reducible rfl))⟩) (by assumption) ?_
                try simp only [Act.put, List.setIfInBounds_toArray, List.set_cons_zero, List.set_cons_succ]
                refine wpAnyH_ready (rs := [2, 8]) (by kernel_rfl) (by simp) ?_
                refine AllReadyH.cons rfl (fun K hK => ?_) ?_
                · (go_simp; go_at_call 13; refine Calls.mono hvw ?_; rintro e w5 ⟨A6, c6, Y6, rfl, hown6, hcb6, hY6, hsb6⟩; have hown7 := hsb6.own hownv hno; have hr7 : ReadL encL w5 w5.heap.size (some ⟨g2, o.length, none⟩) nw := hr6 _ hown7; (try go_wp2_with fail))
                  refine hK.out _ _ trivial (fun hHeld => ?_)
                  clear hK K
                  try simp only [Act.put, List.setIfInBounds_toArray, List.set_cons_zero, List.set_cons_succ]
                  refine wpAnyH_ready (rs := [8]) (by kernel_rfl) (by simp) ?_
                  refine AllReadyH.cons rfl (fun K hK => ?_) ?_
                  · (go_simp; (try go_wp2_with fail))
                    refine hK.out _ _ trivial (fun hHeld => ?_)
                    clear hK K
                    try simp only [Act.put, List.setIfInBounds_toArray, List.set_cons_zero, List.set_cons_succ]
                    refine wpAnyH_ready (rs := [9]) (by kernel_rfl) (by simp) ?_
                    refine AllReadyH.cons rfl (fun K hK => ?_) ?_
                    · (go_simp; go_at_call 12; (try simp only [hnl]); refine Calls.mono (w_Eq_string nw (by omega) A6 _ c6 _ _ _ w5 hown6.read hr7) ?_; rintro e w8 ⟨rfl, rfl⟩; (try go_wp2_with fail))
                      refine hK.out _ _ trivial (fun hHeld => ?_)
                      clear hK K
                      try simp only [Act.put, List.setIfInBounds_toArray, List.set_cons_zero, List.set_cons_succ]
                      refine wpAnyH_ready (rs := [10]) (by kernel_rfl) (by simp) ?_
                      refine AllReadyH.cons rfl (fun K hK => ?_) ?_
                      · go_simp
                        refine hK.out _ _ trivial (fun hHeld => ?_)
                        clear hK K
                        try simp only [Act.put, List.setIfInBounds_toArray, List.set_cons_zero, List.set_cons_succ]
                        refine wpAnyH_done (by kernel_rfl) ?_ _
                        go_wp2_with fail
                        go_meet
                        exact ⟨rfl, Y6, hcb6, hY6, hsb6.os, hsb6.tape, hsb6.output, hsb6.size, hsb6.block⟩
                      exact AllReadyH.nil
                    exact AllReadyH.nil
                  exact AllReadyH.nil
                refine AllReadyH.cons rfl (fun K hK => ?_) ?_
                · (go_simp; (try go_wp2_with fail))
                  refine hK.out _ _ trivial (fun hHeld => ?_)
                  clear hK K
                  try simp only [Act.put, List.setIfInBounds_toArray, List.set_cons_zero, List.set_cons_succ]
                  refine wpAnyH_ready (rs := [2]) (by kernel_rfl) (by simp) ?_
                  refine AllReadyH.cons rfl (fun K hK => ?_) ?_
                  · (go_simp; go_at_call 13; refine Calls.mono hvw ?_; rintro e w5 ⟨A6, c6, Y6, rfl, hown6, hcb6, hY6, hsb6⟩; have hown7 := hsb6.own hownv hno; have hr7 : ReadL encL w5 w5.heap.size (some ⟨g2, o.length, none⟩) nw := hr6 _ hown7; (try go_wp2_with fail))
                    refine hK.out _ _ trivial (fun hHeld => ?_)
                    clear hK K
                    try simp only [Act.put, List.setIfInBounds_toArray, List.set_cons_zero, List.set_cons_succ]
                    refine wpAnyH_ready (rs := [9]) (by kernel_rfl) (by simp) ?_
                    refine AllReadyH.cons rfl (fun K hK => ?_) ?_
                    · (go_simp; go_at_call 12; (try simp only [hnl]); refine Calls.mono (w_Eq_string nw (by omega) A6 _ c6 _ _ _ w5 hown6.read hr7) ?_; rintro e w8 ⟨rfl, rfl⟩; (try go_wp2_with fail))
                      refine hK.out _ _ trivial (fun hHeld => ?_)
                      clear hK K
                      try simp only [Act.put, List.setIfInBounds_toArray, List.set_cons_zero, List.set_cons_succ]
                      refine wpAnyH_ready (rs := [10]) (by kernel_rfl) (by simp) ?_
                      refine AllReadyH.cons rfl (fun K hK => ?_) ?_
                      · go_simp
                        refine hK.out _ _ trivial (fun hHeld => ?_)
                        clear hK K
                        try simp only [Act.put, List.setIfInBounds_toArray, List.set_cons_zero, List.set_cons_succ]
                        refine wpAnyH_done (by kernel_rfl) ?_ _
                        go_wp2_with fail
                        go_meet
                        exact ⟨rfl, Y6, hcb6, hY6, hsb6.os, hsb6.tape, hsb6.output, hsb6.size, hsb6.block⟩
                      exact AllReadyH.nil
                    exact AllReadyH.nil
                  exact AllReadyH.nil
                exact AllReadyH.nil
          case rest =>
            obtain ⟨rfl, Y6, hcb6, hY6, hx1, hx2, hx3, hx4, hx5⟩ := hcut
            have hsb6 : SameBut (fun j => j = w.heap.size ∨ Y = some j) wr wc := ⟨hx1, hx2, hx3, hx4, hx5⟩
            have hownw : OwnL encL wr wo.heap.size 9 A2 c2 (cutC all2) := hownv
            have hown6 : OwnL encL wc wo.heap.size 9 A2 c2 (cutC all2) := hsb6.own hownw hno
            have hbc : Below w.heap.size w wc := hbw.trans (hsb6.toBelow (by omega) (by
              rintro j hj (h | h)
              · omega
              · have := hY _ h; omega))
            have hY7 : ∀ b, Y6 = some b → w.heap.size < b := by
              rintro b rfl
              rcases hY6 with h | ⟨b2, h, h2⟩
              · exact hY _ h.symm
              · injection h; omega
            have hdrop := Lib.hid (cutC_take hext.out).2
            have hwsz : w.heap.size < wc.heap.size := by omega
            obtain ⟨wd, hwd⟩ : ∃ wd, wd = wc := ⟨_, rfl⟩
            subst hwd
            clear hx1 hx2 hx3 hx4 hx5 hsb6 hY6 hvw hI1 hI2 hI4 hI5 hI6 hI7 hI8 hI9 hno hownv hownw
            by_cases hie : i < ends.length
            · obtain ⟨bv, hbv2⟩ : ∃ bv, ends[i]? = some bv := ⟨_, List.getElem?_eq_getElem hie⟩
              obtain ⟨g7, off7, rfl, hg7, hc7⟩ := (hr'.below hbc (Nat.le_refl _)).at_Bl hbv2
              clear hbv2
              cases bv
              · go_wp2_with fail
                go_roundw
                case rel => exact ⟨i + 1, all2, sm2, o2, r2, Y6, by go_num, rfl, rfl, by omega, by rw [htake]; omega, hext, hcb6, hY7, hbc, hwsz⟩
                case measure => simp [intOf]; omega
              · have hnl9 : pl - o2.length = (tailP r2).length := by have := Hcl2.out; omega
                have htl9 := Htl.out
                have hcbd : CutB wd.drew w.heap.size Y6 sm2 r2 := by obtain ⟨⟨A, c, h1, h2, h3⟩⟩ := hcb6; exact ⟨A, c, h1, h2, h3⟩
                have hce := w_CEnd w.heap.size Y6 sm2 r2 wd.drew hcbd
                have hno9 : ∀ (a : Addr), A2 = some a → ¬ (a.block = w.heap.size) := by
                  rintro a ha h
                  have := (hown2.lt a ha).1; omega
                have hI4 : (o2.length : Int) ≤ pl := by omega
                have hI5 : (0 : Int) ≤ (o2.length : Int) := by omega
                have hIpl : (pl : Int) ≤ c2 := by omega
                go_wp2_with fail
                go_cut [91] from 85 to 91 (fun s' wx => s' = .bool false ∧ CutB wx w.heap.size none 0 [] ∧ wx.os = wd.os ∧ wx.tape = wd.tape ∧ wx.output = wd.output ∧ wd.heap.size ≤ wx.heap.size ∧ ∀ j, j < wd.heap.size → ¬ (j = w.heap.size) → wx.heap[j]? = wd.heap[j]?)
                case first =>
                  rcases hown2.form with ⟨rfl, h0, rfl⟩ | ⟨g2, rfl, hg2, _⟩
                  · have Ht0 := Lib.hid (show tailP r2 = [] from List.length_eq_zero_iff.1 (by rw [Hpl.out] at h0; omega))
                    refine wp_region_held_drew (S := (fun _ => True)) (by kernel_rfl) trivial (fun hHeld => ?_)
                    refine wpAnyH_take (i := 0) (v := ?_) rfl (by kernel_rfl) (by kernel_rfl) (by kernel_rfl) (fun _ _ _ h => h) (Or.inl ⟨by rfl, by (intro W hSw; (try dsimp only at hSw); go_simp; try (with_reducible rfl))⟩) (by assumption) ?_
                    try simp only [Act.put, List.setIfInBounds_toArray, List.set_cons_zero, List.set_cons_succ]
                    refine wpAnyH_take (i := 2) (v := ?_) rfl (by kernel_rfl) (by kernel_rfl) (by kernel_rfl) (fun _ _ _ h => h) (Or.inl ⟨by rfl, by (intro W hSw; (try dsimp only at hSw); go_simp; try (with_reducible rfl))⟩) (by assumption) ?_
                    try simp only [Act.put, List.setIfInBounds_toArray, List.set_cons_zero, List.set_cons_succ]
                    refine wpAnyH_take (i := 3) (v := ?_) rfl (by kernel_rfl) (by kernel_rfl) (by kernel_rfl) (fun _ _ _ h => h) (Or.inl ⟨by rfl, by (intro W hSw; (try dsimp only at hSw); go_simp; try (with_reducible rfl))⟩) (by assumption) ?_
                    try simp only [Act.put, List.setIfInBounds_toArray, List.set_cons_zero, List.set_cons_succ]
                    refine wpAnyH_ready (rs := [1, 4]) (by kernel_rfl) (by simp) ?_
                    refine AllReadyH.cons rfl (fun K hK => ?_) ?_
                    · (go_simp; go_at_call 14; refine Calls.mono hce ?_; rintro e w9 ⟨A9, c9, rfl, hown9, hcb9, hsb9⟩; have hown7 := hsb9.own hown6 hno9; have hr7 : ReadL encL w9 w9.heap.size none (tailP r2) := (by rw [Ht0.out]; exact ReadL.nil); (try go_wp2_with fail))
                      refine hK.out _ _ trivial (fun hHeld => ?_)
                      clear hK K
                      try simp only [Act.put, List.setIfInBounds_toArray, List.set_cons_zero, List.set_cons_succ]
                      refine wpAnyH_ready (rs := [4]) (by kernel_rfl) (by simp) ?_
                      refine AllReadyH.cons rfl (fun K hK => ?_) ?_
                      · (go_simp; (try go_wp2_with fail))
                        refine hK.out _ _ trivial (fun hHeld => ?_)
                        clear hK K
                        try simp only [Act.put, List.setIfInBounds_toArray, List.set_cons_zero, List.set_cons_succ]
                        refine wpAnyH_ready (rs := [5]) (by kernel_rfl) (by simp) ?_
                        refine AllReadyH.cons rfl (fun K hK => ?_) ?_
                        · (go_simp; go_at_call 12; (try simp only [hnl9]); refine Calls.mono (w_Eq_string (tailP r2) (by omega) A9 _ c9 _ _ _ w9 hown9.read hr7) ?_; rintro e w8 ⟨rfl, rfl⟩; (try go_wp2_with fail))
                          refine hK.out _ _ trivial (fun hHeld => ?_)
                          clear hK K
                          try simp only [Act.put, List.setIfInBounds_toArray, List.set_cons_zero, List.set_cons_succ]
                          refine wpAnyH_ready (rs := [6]) (by kernel_rfl) (by simp) ?_
                          refine AllReadyH.cons rfl (fun K hK => ?_) ?_
                          · go_simp
                            refine hK.out _ _ trivial (fun hHeld => ?_)
                            clear hK K
                            try simp only [Act.put, List.setIfInBounds_toArray, List.set_cons_zero, List.set_cons_succ]
                            refine wpAnyH_done (by kernel_rfl) ?_ _
                            go_wp2_with fail
                            go_meet
                            exact ⟨rfl, hcb9, hsb9.os, hsb9.tape, hsb9.output, hsb9.size, hsb9.block⟩
                          exact AllReadyH.nil
                        exact AllReadyH.nil
                      exact AllReadyH.nil
                    refine AllReadyH.cons rfl (fun K hK => ?_) ?_
                    · (go_simp; (try go_wp2_with fail))
                      refine hK.out _ _ trivial (fun hHeld => ?_)
                      clear hK K
                      try simp only [Act.put, List.setIfInBounds_toArray, List.set_cons_zero, List.set_cons_succ]
                      refine wpAnyH_ready (rs := [1]) (by kernel_rfl) (by simp) ?_
                      refine AllReadyH.cons rfl (fun K hK => ?_) ?_
                      · (go_simp; go_at_call 14; refine Calls.mono hce ?_; rintro e w9 ⟨A9, c9, rfl, hown9, hcb9, hsb9⟩; have hown7 := hsb9.own hown6 hno9; have hr7 : ReadL encL w9 w9.heap.size none (tailP r2) := (by rw [Ht0.out]; exact ReadL.nil); (try go_wp2_with fail))
                        refine hK.out _ _ trivial (fun hHeld => ?_)
                        clear hK K
                        try simp only [Act.put, List.setIfInBounds_toArray, List.set_cons_zero, List.set_cons_succ]
                        refine wpAnyH_ready (rs := [5]) (by kernel_rfl) (by simp) ?_
                        refine AllReadyH.cons rfl (fun K hK => ?_) ?_
                        · (go_simp; go_at_call 12; (try simp only [hnl9]); refine Calls.mono (w_Eq_string (tailP r2) (by omega) A9 _ c9 _ _ _ w9 hown9.read hr7) ?_; rintro e w8 ⟨rfl, rfl⟩; (try go_wp2_with fail))
                          refine hK.out _ _ trivial (fun hHeld => ?_)
                          clear hK K
                          try simp only [Act.put, List.setIfInBounds_toArray, List.set_cons_zero, List.set_cons_succ]
                          refine wpAnyH_ready (rs := [6]) (by kernel_rfl) (by simp) ?_
                          refine AllReadyH.cons rfl (fun K hK => ?_) ?_
                          · go_simp
                            refine hK.out _ _ trivial (fun hHeld => ?_)
                            clear hK K
                            try simp only [Act.put, List.setIfInBounds_toArray, List.set_cons_zero, List.set_cons_succ]
                            refine wpAnyH_done (by kernel_rfl) ?_ _
                            go_wp2_with fail
                            go_meet
                            exact ⟨rfl, hcb9, hsb9.os, hsb9.tape, hsb9.output, hsb9.size, hsb9.block⟩
                          exact AllReadyH.nil
                        exact AllReadyH.nil
                      exact AllReadyH.nil
                    exact AllReadyH.nil
                  · by_cases hcA : c2 = o2.length
                    · have Ht0 := Lib.hid (show tailP r2 = [] from List.length_eq_zero_iff.1 (by omega))
                      subst hcA
                      refine wp_region_held_drew (S := (fun _ => True)) (by kernel_rfl) trivial (fun hHeld => ?_)
                      refine wpAnyH_take (i := 0) (v := ?_) rfl (by kernel_rfl) (by kernel_rfl) (by kernel_rfl) (fun _ _ _ h => h) (Or.inl ⟨by rfl, by (intro W hSw; (try dsimp only at hSw); go_simp; try (with_reducible rfl))⟩) (by assumption) ?_
                      try simp only [Act.put, List.setIfInBounds_toArray, List.set_cons_zero, List.set_cons_succ]
                      refine wpAnyH_take (i := 2) (v := ?_) rfl (by kernel_rfl) (by kernel_rfl) (by kernel_rfl) (fun _ _ _ h => h) (Or.inl ⟨by rfl, by (intro W hSw; (try dsimp only at hSw); go_simp; try (with_reducible rfl))⟩) (by assumption) ?_
                      try simp only [Act.put, List.setIfInBounds_toArray, List.set_cons_zero, List.set_cons_succ]
                      refine wpAnyH_take (i := 3) (v := ?_) rfl (by kernel_rfl) (by kernel_rfl) (by kernel_rfl) (fun _ _ _ h => h) (Or.inl ⟨by rfl, by (intro W hSw; (try dsimp only at hSw); go_simp; try (with_reducible rfl))⟩) (by assumption) ?_
                      try simp only [Act.put, List.setIfInBounds_toArray, List.set_cons_zero, List.set_cons_succ]
                      refine wpAnyH_ready (rs := [1, 4]) (by kernel_rfl) (by simp) ?_
                      refine AllReadyH.cons rfl (fun K hK => ?_) ?_
                      · (go_simp; go_at_call 14; refine Calls.mono hce ?_; rintro e w9 ⟨A9, c9, rfl, hown9, hcb9, hsb9⟩; have hown7 := hsb9.own hown6 hno9; have hr7 : ReadL encL w9 w9.heap.size (some ⟨g2, 0, none⟩) (tailP r2) := (by rw [Ht0.out]; exact ReadL.nil); (try go_wp2_with fail))
                        refine hK.out _ _ trivial (fun hHeld => ?_)
                        clear hK K
                        try simp only [Act.put, List.setIfInBounds_toArray, List.set_cons_zero, List.set_cons_succ]
                        refine wpAnyH_ready (rs := [4]) (by kernel_rfl) (by simp) ?_
                        refine AllReadyH.cons rfl (fun K hK => ?_) ?_
                        · (go_simp; (try go_wp2_with fail))
                          refine hK.out _ _ trivial (fun hHeld => ?_)
                          clear hK K
                          try simp only [Act.put, List.setIfInBounds_toArray, List.set_cons_zero, List.set_cons_succ]
                          refine wpAnyH_ready (rs := [5]) (by kernel_rfl) (by simp) ?_
                          refine AllReadyH.cons rfl (fun K hK => ?_) ?_
                          · (go_simp; go_at_call 12; (try simp only [hnl9]); refine Calls.mono (w_Eq_string (tailP r2) (by omega) A9 _ c9 _ _ _ w9 hown9.read hr7) ?_; rintro e w8 ⟨rfl, rfl⟩; (try go_wp2_with fail))
                            refine hK.out _ _ trivial (fun hHeld => ?_)
                            clear hK K
                            try simp only [Act.put, List.setIfInBounds_toArray, List.set_cons_zero, List.set_cons_succ]
                            refine wpAnyH_ready (rs := [6]) (by kernel_rfl) (by simp) ?_
                            refine AllReadyH.cons rfl (fun K hK => ?_) ?_
                            · go_simp
                              refine hK.out _ _ trivial (fun hHeld => ?_)
                              clear hK K
                              try simp only [Act.put, List.setIfInBounds_toArray, List.set_cons_zero, List.set_cons_succ]
                              refine wpAnyH_done (by kernel_rfl) ?_ _
                              go_wp2_with fail
                              go_meet
                              exact ⟨rfl, hcb9, hsb9.os, hsb9.tape, hsb9.output, hsb9.size, hsb9.block⟩
                            exact AllReadyH.nil
                          exact AllReadyH.nil
                        exact AllReadyH.nil
                      refine AllReadyH.cons rfl (fun K hK => ?_) ?_
                      · (go_simp; (try go_wp2_with fail))
                        refine hK.out _ _ trivial (fun hHeld => ?_)
                        clear hK K
                        try simp only [Act.put, List.setIfInBounds_toArray, List.set_cons_zero, List.set_cons_succ]
                        refine wpAnyH_ready (rs := [1]) (by kernel_rfl) (by simp) ?_
                        refine AllReadyH.cons rfl (fun K hK => ?_) ?_
                        · (go_simp; go_at_call 14; refine Calls.mono hce ?_; rintro e w9 ⟨A9, c9, rfl, hown9, hcb9, hsb9⟩; have hown7 := hsb9.own hown6 hno9; have hr7 : ReadL encL w9 w9.heap.size (some ⟨g2, 0, none⟩) (tailP r2) := (by rw [Ht0.out]; exact ReadL.nil); (try go_wp2_with fail))
                          refine hK.out _ _ trivial (fun hHeld => ?_)
                          clear hK K
                          try simp only [Act.put, List.setIfInBounds_toArray, List.set_cons_zero, List.set_cons_succ]
                          refine wpAnyH_ready (rs := [5]) (by kernel_rfl) (by simp) ?_
                          refine AllReadyH.cons rfl (fun K hK => ?_) ?_
                          · (go_simp; go_at_call 12; (try simp only [hnl9]); refine Calls.mono (w_Eq_string (tailP r2) (by omega) A9 _ c9 _ _ _ w9 hown9.read hr7) ?_; rintro e w8 ⟨rfl, rfl⟩; (try go_wp2_with fail))
                            refine hK.out _ _ trivial (fun hHeld => ?_)
                            clear hK K
                            try simp only [Act.put, List.setIfInBounds_toArray, List.set_cons_zero, List.set_cons_succ]
                            refine wpAnyH_ready (rs := [6]) (by kernel_rfl) (by simp) ?_
                            refine AllReadyH.cons rfl (fun K hK => ?_) ?_
                            · go_simp
                              refine hK.out _ _ trivial (fun hHeld => ?_)
                              clear hK K
                              try simp only [Act.put, List.setIfInBounds_toArray, List.set_cons_zero, List.set_cons_succ]
                              refine wpAnyH_done (by kernel_rfl) ?_ _
                              go_wp2_with fail
                              go_meet
                              exact ⟨rfl, hcb9, hsb9.os, hsb9.tape, hsb9.output, hsb9.size, hsb9.block⟩
                            exact AllReadyH.nil
                          exact AllReadyH.nil
                        exact AllReadyH.nil
                      exact AllReadyH.nil
                    · have hr6 : ∀ (W : World), OwnL encL W wo.heap.size 9 (some ⟨g2, 0, none⟩) c2 (cutC all2) → ReadL encL W W.heap.size (some ⟨g2, o2.length, none⟩) (tailP r2) := fun W h => by
                        have := h.read.drop o2.length
                        rw [hdrop.out] at this
                        simpa [encL] using this
                      refine wp_region_held_drew (S := (fun _ => True)) (by kernel_rfl) trivial (fun hHeld => ?_)
                      refine wpAnyH_take (i := 0) (v := ?_) rfl (by kernel_rfl) (by kernel_rfl) (by kernel_rfl) (fun _ _ _ h => h) (Or.inl ⟨by rfl, by (intro W hSw; (try dsimp only at hSw); go_simp; try (with_reducible rfl))⟩) (by assumption) ?_
                      try simp only [Act.put, List.setIfInBounds_toArray, List.set_cons_zero, List.set_cons_succ]
                      refine wpAnyH_take (i := 2) (v := ?_) rfl (by kernel_rfl) (by kernel_rfl) (by kernel_rfl) (fun _ _ _ h => h) (Or.inl ⟨by rfl, by (intro W hSw; (try dsimp only at hSw); go_simp; try (with_reducible rfl))⟩) (by assumption) ?_
                      try simp only [Act.put, List.setIfInBounds_toArray, List.set_cons_zero, List.set_cons_succ]
                      refine wpAnyH_take (i := 3) (v := ?_) rfl (by kernel_rfl) (by kernel_rfl) (by kernel_rfl) (fun _ _ _ h => h) (Or.inl ⟨by rfl, by (intro W hSw; (try dsimp only at hSw); go_simp; try (with_reducible rfl))⟩) (by assumption) ?_
                      try simp only [Act.put, List.setIfInBounds_toArray, List.set_cons_zero, List.set_cons_succ]
                      refine wpAnyH_ready (rs := [1, 4]) (by kernel_rfl) (by simp) ?_
                      refine AllReadyH.cons rfl (fun K hK => ?_) ?_
                      · (go_simp; go_at_call 14; refine Calls.mono hce ?_; rintro e w9 ⟨A9, c9, rfl, hown9, hcb9, hsb9⟩; have hown7 := hsb9.own hown6 hno9; have hr7 : ReadL encL w9 w9.heap.size (some ⟨g2, o2.length, none⟩) (tailP r2) := hr6 _ hown7; (try go_wp2_with fail))
                        refine hK.out _ _ trivial (fun hHeld => ?_)
                        clear hK K
                        try simp only [Act.put, List.setIfInBounds_toArray, List.set_cons_zero, List.set_cons_succ]
                        refine wpAnyH_ready (rs := [4]) (by kernel_rfl) (by simp) ?_
                        refine AllReadyH.cons rfl (fun K hK => ?_) ?_
                        · (go_simp; (try go_wp2_with fail))
                          refine hK.out _ _ trivial (fun hHeld => ?_)
                          clear hK K
                          try simp only [Act.put, List.setIfInBounds_toArray, List.set_cons_zero, List.set_cons_succ]
                          refine wpAnyH_ready (rs := [5]) (by kernel_rfl) (by simp) ?_
                          refine AllReadyH.cons rfl (fun K hK => ?_) ?_
                          · (go_simp; go_at_call 12; (try simp only [hnl9]); refine Calls.mono (w_Eq_string (tailP r2) (by omega) A9 _ c9 _ _ _ w9 hown9.read hr7) ?_; rintro e w8 ⟨rfl, rfl⟩; (try go_wp2_with fail))
                            refine hK.out _ _ trivial (fun hHeld => ?_)
                            clear hK K
                            try simp only [Act.put, List.setIfInBounds_toArray, List.set_cons_zero, List.set_cons_succ]
                            refine wpAnyH_ready (rs := [6]) (by kernel_rfl) (by simp) ?_
                            refine AllReadyH.cons rfl (fun K hK => ?_) ?_
                            · go_simp
                              refine hK.out _ _ trivial (fun hHeld => ?_)
                              clear hK K
                              try simp only [Act.put, List.setIfInBounds_toArray, List.set_cons_zero, List.set_cons_succ]
                              refine wpAnyH_done (by kernel_rfl) ?_ _
                              go_wp2_with fail
                              go_meet
                              exact ⟨rfl, hcb9, hsb9.os, hsb9.tape, hsb9.output, hsb9.size, hsb9.block⟩
                            exact AllReadyH.nil
                          exact AllReadyH.nil
                        exact AllReadyH.nil
                      refine AllReadyH.cons rfl (fun K hK => ?_) ?_
                      · (go_simp; (try go_wp2_with fail))
                        refine hK.out _ _ trivial (fun hHeld => ?_)
                        clear hK K
                        try simp only [Act.put, List.setIfInBounds_toArray, List.set_cons_zero, List.set_cons_succ]
                        refine wpAnyH_ready (rs := [1]) (by kernel_rfl) (by simp) ?_
                        refine AllReadyH.cons rfl (fun K hK => ?_) ?_
                        · (go_simp; go_at_call 14; refine Calls.mono hce ?_; rintro e w9 ⟨A9, c9, rfl, hown9, hcb9, hsb9⟩; have hown7 := hsb9.own hown6 hno9; have hr7 : ReadL encL w9 w9.heap.size (some ⟨g2, o2.length, none⟩) (tailP r2) := hr6 _ hown7; (try go_wp2_with fail))
                          refine hK.out _ _ trivial (fun hHeld => ?_)
                          clear hK K
                          try simp only [Act.put, List.setIfInBounds_toArray, List.set_cons_zero, List.set_cons_succ]
                          refine wpAnyH_ready (rs := [5]) (by kernel_rfl) (by simp) ?_
                          refine AllReadyH.cons rfl (fun K hK => ?_) ?_
                          · (go_simp; go_at_call 12; (try simp only [hnl9]); refine Calls.mono (w_Eq_string (tailP r2) (by omega) A9 _ c9 _ _ _ w9 hown9.read hr7) ?_; rintro e w8 ⟨rfl, rfl⟩; (try go_wp2_with fail))
                            refine hK.out _ _ trivial (fun hHeld => ?_)
                            clear hK K
                            try simp only [Act.put, List.setIfInBounds_toArray, List.set_cons_zero, List.set_cons_succ]
                            refine wpAnyH_ready (rs := [6]) (by kernel_rfl) (by simp) ?_
                            refine AllReadyH.cons rfl (fun K hK => ?_) ?_
                            · go_simp
                              refine hK.out _ _ trivial (fun hHeld => ?_)
                              clear hK K
                              try simp only [Act.put, List.setIfInBounds_toArray, List.set_cons_zero, List.set_cons_succ]
                              refine wpAnyH_done (by kernel_rfl) ?_ _
                              go_wp2_with fail
                              go_meet
                              exact ⟨rfl, hcb9, hsb9.os, hsb9.tape, hsb9.output, hsb9.size, hsb9.block⟩
                            exact AllReadyH.nil
                          exact AllReadyH.nil
                        exact AllReadyH.nil
                      exact AllReadyH.nil
                case rest =>
                  obtain ⟨rfl, hcb9, hx1, hx2, hx3, hx4, hx5⟩ := hcut
                  have hsb9 : SameBut (fun j => j = w.heap.size) wd wc := ⟨hx1, hx2, hx3, hx4, hx5⟩
                  have hbc9 : Below w.heap.size w wc := hbc.trans (hsb9.toBelow (by omega) (by rintro j hj h; omega))
                  have hws9 : w.heap.size < wc.heap.size := by omega
                  clear hx1 hx2 hx3 hx4 hx5
                  go_wp2_with fail
                  go_roundw
                  case rel => exact ⟨i + 1, [], 0, [], [], none, by go_num, rfl, rfl, by omega, by simp, Lib.hid rfl, hcb9, (fun b h => (by cases h)), hbc9, hws9⟩
                  case measure => simp [intOf]; omega
            · go_wp2_with fail
              go_roundw
              case rel => exact ⟨i + 1, all2, sm2, o2, r2, Y6, by go_num, rfl, rfl, by omega, by rw [htake]; omega, hext, hcb6, hY7, hbc, hwsz⟩
              case measure => simp [intOf]; omega
    · obtain rfl : i = l.length := by omega
      have hge : ∀ W, Calls Try.prog 15 #[.int .u8 0] W fun e w' => e = .returned (.int .u32 (gear 0 : Nat)) ∧ W = w' := fun W => w_Gear 0 W
      have hgr : ∀ W, Calls Try.prog 16 #[.int .u8 0] W fun e w' => e = .returned (.int .u32 (gear 0 : Nat)) ∧ W = w' := fun W => w_GearR 0 W
      have hall : all.length ≤ 1048576 := by rw [List.take_length] at hal; omega
      have hce := w_CEnd w.heap.size Y sm r wo hcb
      have hcut := fun W => w_CutC all (by omega) W
      have hcl := cutC_length hck.out
      have hdrop := Lib.hid (cutC_take hck.out).2
      have htl : (tailP r).length ≤ 1 := by unfold tailP; split <;> simp
      have hplb := cutC_cnt all
      obtain ⟨pl, hpl⟩ : ∃ pl, (cutC all).length = pl := ⟨_, rfl⟩
      have Hpl := Lib.hid hpl
      have hnl9 : pl - o.length = (tailP r).length := by omega
      have hI4 : (o.length : Int) ≤ pl := by omega
      have hop : o.length ≤ pl := by omega
      have htlb : (tailP r).length ≤ 1048576 := by omega
      rw [hpl] at hcut
      clear hcl hpl htl
      generalize gear 0 = g0 at *
      go_wp2_with (first
        | (go_at_call 15; refine (hge _).mono ?_; rintro e w' ⟨rfl, rfl⟩)
        | (go_at_call 16; refine (hgr _).mono ?_; rintro e w' ⟨rfl, rfl⟩))
      refine hce.mono ?_
      rintro e w9 ⟨A9, c9, rfl, hown9, hcb9, hsb9⟩
      go_wp2_with fail
      refine (hcut _).mono ?_
      rintro e w10 ⟨A2, c2, rfl, hown2, hb10⟩
      have hle := hown2.le_cap
      rw [Hpl.out] at hle
      have hIpl : (pl : Int) ≤ c2 := by omega
      have hown9' := hown9.below hb10 (Nat.le_refl _)
      have hB : Below w.heap.size w w10 := hbel.trans ((hsb9.toBelow (by omega) (by rintro j hj h; omega)).trans (hb10.mono (by have := hsb9.size; omega)))
      rcases hown2.form with ⟨rfl, h0, rfl⟩ | ⟨g2, rfl, hg2, _⟩
      · have Ht0 := Lib.hid (show tailP r = [] from List.length_eq_zero_iff.1 (by rw [Hpl.out] at h0; omega))
        have hr7 : ReadL encL w10 w10.heap.size none (tailP r) := by rw [Ht0.out]; exact ReadL.nil
        go_wp2_with (go_at_call 12; (try simp only [hnl9]); refine Calls.mono (w_Eq_string (tailP r) (by omega) A9 _ c9 _ _ _ w10 hown9'.read hr7) ?_; rintro e w8 ⟨rfl, rfl⟩)
        go_ret
        exact ⟨by simp, hB⟩
      · by_cases hcA : c2 = o.length
        · have Ht0 := Lib.hid (show tailP r = [] from List.length_eq_zero_iff.1 (by omega))
          subst hcA
          have hr7 : ReadL encL w10 w10.heap.size (some ⟨g2, 0, none⟩) (tailP r) := by rw [Ht0.out]; exact ReadL.nil
          go_wp2_with (go_at_call 12; (try simp only [hnl9]); refine Calls.mono (w_Eq_string (tailP r) (by omega) A9 _ c9 _ _ _ w10 hown9'.read hr7) ?_; rintro e w8 ⟨rfl, rfl⟩)
          go_ret
          exact ⟨by simp, hB⟩
        · have hr7 : ReadL encL w10 w10.heap.size (some ⟨g2, o.length, none⟩) (tailP r) := by
            have := hown2.read.drop o.length
            rw [hdrop.out] at this
            simpa [encL] using this
          go_wp2_with (go_at_call 12; (try simp only [hnl9]); refine Calls.mono (w_Eq_string (tailP r) (by omega) A9 _ c9 _ _ _ w10 hown9'.read hr7) ?_; rintro e w8 ⟨rfl, rfl⟩)
          go_ret
          exact ⟨by simp, hB⟩
end Go.Proofs.Ytmhhjmncbclihaa
