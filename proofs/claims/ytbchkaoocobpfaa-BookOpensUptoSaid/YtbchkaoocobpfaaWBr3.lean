/- Walks: the reference's books: the image. -/
import Derived.Test.YtbchkaoocobpfaaWBr2
import Derived.Test.YtbchkaoocobpfaaWWrite
import Derived.Test.YtbchkaoocobpfaaWStr
import Derived.Deep.RegionHeld3
namespace Go.Proofs.Ytbchkaoocobpfaa
open Go.RowKit Go.Larder
set_option linter.unusedVariables false
set_option linter.unusedSimpArgs false
variable {w w' : World} {c cap : Nat} {A : Option Addr} {L : List Ent}
theorem w_truth (b : Bool) (w : World) : Calls Try.prog 46 #[.bool b] w fun e w' => e = .returned (.int .i64 (if b then 1 else 0)) ∧ w = w' := by
  cases b
  all_goals
    go_enter Try.func46, Try.ntmps46
    go_wp2
    go_ret
    exact ⟨rfl, rfl⟩
theorem writeGo_recs : ∀ (L : List Ent) (k : Nat) (acc : List UInt8), (∀ e ∈ L, OkEnt e) → k + L.length ≤ 2000000 → writeGo k (L.map recE) acc = .ok (acc ++ imgGo k L)
  | [], k, acc, _, _ => by simp [writeGo, imgGo]
  | e :: L, k, acc, h, hk => by
    have he := recE_len (h e (by simp))
    have ih := writeGo_recs L (k + 1) (acc ++ frameL k (recE e)) (fun x hx => h x (List.mem_cons_of_mem _ hx)) (by simp only [List.length_cons] at hk; omega)
    simp only [List.length_cons] at hk
    rw [List.map_cons]
    rw [writeGo_ok (by omega) (by omega), ih, imgGo, List.append_assoc]
theorem writeL_recs (h : ∀ e ∈ L, OkEnt e) (hl : L.length ≤ 2000000) : writeL (L.map recE) = .ok (imgGo 0 L) := by
  unfold writeL
  rw [writeGo_recs L 0 [] h (by omega)]
  rfl
set_option maxHeartbeats 4000000 in
set_option maxRecDepth 100000 in
theorem w_RImage (hl : L.length ≤ 1048576) (ho : ∀ e ∈ L, OkEnt e) (h : RefB w c A cap L) :
    Calls Try.prog 23 #[.pointer (some ⟨c, 0, none⟩)] w fun e w' => e = .returned (S (imgGo 0 L)) ∧ Below w.heap.size w w' := by
  have c0 := h.box.cell (j := 0) rfl
  go_enter Try.func23, Try.ntmps23
  go_wp2_with fail
  go_loopw [3, 5, 13] (fun o' _ i' wr => ∃ (i : Nat) (out : List (List UInt8)) (A2 : Option Addr) (c2 : Nat), i' = .int .i64 i ∧ o' = .slice A2 out.length c2 ∧ i ≤ L.length ∧ out.length ≤ i ∧ Hid (out = (L.take i).map recE) ∧ OwnL encL wr w.heap.size 9 A2 c2 out ∧ Below w.heap.size w wr) (fun _ _ i' _ => L.length - (intOf i').toNat)
  case atStart => exact ⟨0, [], none, 0, rfl, rfl, by omega, by simp, Lib.hid rfl, OwnL.nil _ _ _, Below.refl _ _⟩
  case round =>
    obtain ⟨i, out, A2, c2, rfl, rfl, hi, hol, heq, hown, hbel⟩ := hrel
    obtain ⟨wo, hwo⟩ : ∃ wo, wo = wr := ⟨_, rfl⟩
    subst hwo
    by_cases hlt : i < L.length
    · obtain ⟨e, hei, hd⟩ := drop_step hlt
      have hoe := ho e (List.mem_of_getElem? hei)
      obtain ⟨g, off, hA, q0, q1, q2⟩ := (h.keep hbel).cells hei
      have Hn0 := Lib.hid (show out ++ [recE e] = (L.take (i + 1)).map recE from by rw [List.take_add_one, hei, heq.out, List.map_append]; rfl)
      subst hA
      obtain ⟨bt, kk, xx⟩ := e
      have hk1 := hoe.k2
      have hx1 := hoe.v
      simp only at q0 q1 q2 hk1 hx1
      obtain ⟨kl, hkl⟩ : ∃ kl, UInt8.ofNat kk.length = kl := ⟨_, rfl⟩
      have hc2 := fun W => w_chr kk.length (by omega) W
      rw [hkl] at hc2
      clear hei hd hoe
      cases bt
      · have hre : recE (false, kk, xx) = [UInt8.ofNat 2, kl] ++ kk ++ xx := by rw [← hkl]; rfl
        have hc1 : ∀ W, Calls Try.prog 45 #[.int .i64 2] W fun e w' => e = .returned (S [UInt8.ofNat 2]) ∧ Below W.heap.size W w' := fun W => w_chr 2 (by omega) W
        obtain ⟨c0', hc0'⟩ : ∃ c0', UInt8.ofNat 2 = c0' := ⟨_, rfl⟩
        rw [hc0'] at hre hc1
        simp only [Bool.false_eq_true, if_false] at q0
        obtain ⟨q1', hq1'⟩ : ∃ q1', [c0', kl] ++ kk = q1' := ⟨_, rfl⟩
        obtain ⟨q2', hq2'⟩ : ∃ q2', q1' ++ xx = q2' := ⟨_, rfl⟩
        have hq1l : q1'.length ≤ 52 := by rw [← hq1']; simp; omega
        have a1 : ∀ W, (Op.stringOp .add ⟨#[c0']⟩ ⟨#[kl]⟩).run Try.prog W = .ok (.string ⟨#[c0', kl]⟩) W := fun W => run_cat (P := Try.prog) [c0'] [kl] (by simp) (by simp) W
        have a2 : ∀ W, (Op.stringOp .add ⟨#[c0', kl]⟩ ⟨kk.toArray⟩).run Try.prog W = .ok (.string ⟨q1'.toArray⟩) W := fun W => by
          have := run_cat (P := Try.prog) [c0', kl] kk (by simp) (by omega) W
          rw [hq1'] at this
          exact this
        have a3 : ∀ W, (Op.stringOp .add ⟨q1'.toArray⟩ ⟨xx.toArray⟩).run Try.prog W = .ok (.string ⟨q2'.toArray⟩) W := fun W => by
          have := run_cat (P := Try.prog) q1' xx (by omega) (by omega) W
          rw [hq2'] at this
          exact this
        rw [hq1', hq2'] at hre
        have Hn : Hid (out ++ [q2'] = (L.take (i + 1)).map recE) := by rw [← hre]; exact Hn0
        have htr : ∀ W, Calls Try.prog 46 #[.bool true] W fun e w' => e = .returned (.int .i64 1) ∧ W = w' := fun W => w_truth true W
        have hw1 : IntKind.i64.wrap 2 = 2 := by decide
        clear hq1' hq2' hre hc0' hkl Hn0
        go_upto_region 5 with fail
        have bx := (BoxAt.new wo [S [68], S kk, S xx] 91)
        have hbw := hbel.alloc hbel.size (.cells #[S [68], S kk, S xx] 91)
        have hown2 := hown.alloc (.cells #[S [68], S kk, S xx] 91)
        have hwos := hbel.size
        generalize wo.alloc (.cells #[S [68], S kk, S xx] 91) = wa at *
        generalize wo.heap.size = gx at *
        have r0 := bx.cell (j := 0) rfl
        have r1 := bx.cell (j := 1) rfl
        have r2 := bx.cell (j := 2) rfl
        clear q0 q1 q2
        go_region_held3 (fun W => W.cell? ⟨gx, 0, none⟩ = some (S [68]) ∧ W.cell? ⟨gx, 1, none⟩ = some (S kk) ∧ W.cell? ⟨gx, 2, none⟩ = some (S xx)) ((first | exact ⟨r0, r1, r2⟩ | exact ⟨s0, s1, s2⟩ | exact ⟨u0, u1, u2⟩ | exact ⟨v0, v1, v2⟩ | exact ⟨x0, x1, x2⟩)) ((first
          | (go_at_call 46; (with_reducible refine Calls.mono (htr _) ?_); rintro e w4 ⟨rfl, rfl⟩)
          | (go_at_call 45; (with_reducible refine Calls.mono (hc1 wa.drew) ?_); rintro e w5 ⟨rfl, hb5⟩; have bx5 := bx.drew.keep hb5; have s0 := bx5.cell (j := 0) rfl; have s1 := bx5.cell (j := 1) rfl; have s2 := bx5.cell (j := 2) rfl)
          | (go_at_call 45; (with_reducible refine Calls.mono (hc2 w5) ?_); rintro e w6 ⟨rfl, hb6⟩; have bx6 := bx5.keep hb6; have u0 := bx6.cell (j := 0) rfl; have u1 := bx6.cell (j := 1) rfl; have u2 := bx6.cell (j := 2) rfl; have bx7 := bx6.alloc (.cells #[S q2'] 9); have v0 := bx7.cell (j := 0) rfl; have v1 := bx7.cell (j := 1) rfl; have v2 := bx7.cell (j := 2) rfl; have hbw6 := (hbw.drew.trans (hb5.mono hbw.size)).trans (hb6.mono (hbw.drew.trans (hb5.mono hbw.size)).size); have hown6 := ((OwnL.drw hown2).below hb5 (Nat.le_refl _)).below hb6 (Nat.le_refl _); have hlit := own_lit w6 w.heap.size 9 #[S q2'] [q2'] (by rw [flat_S]; rfl) hbw6.size (by simp [maxLen]); have hown7 := OwnL.alc hown6 (.cells #[S q2'] 9))
          | (refine step_app_at encL sl_strT [q2'] rfl _ _ (by rfl) (l := out) (by rfl) hown7 (by rfl) hlit.read (by simp; omega) (by simp [maxLen]; omega) (by simp; have := hbw6.size; omega) ?_; intro A7 c7 w8 ho8 hg8 hr8 hb8; have bx8 := bx7.grn hg8 (BoxAt.apart hown7 bx7 (by decide)); have x0 := bx8.cell (j := 0) rfl; have x1 := bx8.cell (j := 1) rfl; have x2 := bx8.cell (j := 2) rfl)))
        all_goals
          have hbel8 := (hbw6.alloc hbw6.size (.cells #[S q2'] 9)).trans hb8
          clear x0 x1 x2 s0 s1 s2 u0 u1 u2 v0 v1 v2 r0 r1 r2
          go_wp2_with fail
          go_roundw
          case rel => exact ⟨i + 1, out ++ [q2'], A7, c7, by go_num, by simp, by omega, by simp; omega, Hn, ho8, hbel8⟩
          case measure => simp [intOf]; omega
      · have hre : recE (true, kk, xx) = [UInt8.ofNat 1, kl] ++ kk ++ xx := by rw [← hkl]; rfl
        have hc1 : ∀ W, Calls Try.prog 45 #[.int .i64 1] W fun e w' => e = .returned (S [UInt8.ofNat 1]) ∧ Below W.heap.size W w' := fun W => w_chr 1 (by omega) W
        obtain ⟨c0', hc0'⟩ : ∃ c0', UInt8.ofNat 1 = c0' := ⟨_, rfl⟩
        rw [hc0'] at hre hc1
        simp only [if_true] at q0
        obtain ⟨q1', hq1'⟩ : ∃ q1', [c0', kl] ++ kk = q1' := ⟨_, rfl⟩
        obtain ⟨q2', hq2'⟩ : ∃ q2', q1' ++ xx = q2' := ⟨_, rfl⟩
        have hq1l : q1'.length ≤ 52 := by rw [← hq1']; simp; omega
        have a1 : ∀ W, (Op.stringOp .add ⟨#[c0']⟩ ⟨#[kl]⟩).run Try.prog W = .ok (.string ⟨#[c0', kl]⟩) W := fun W => run_cat (P := Try.prog) [c0'] [kl] (by simp) (by simp) W
        have a2 : ∀ W, (Op.stringOp .add ⟨#[c0', kl]⟩ ⟨kk.toArray⟩).run Try.prog W = .ok (.string ⟨q1'.toArray⟩) W := fun W => by
          have := run_cat (P := Try.prog) [c0', kl] kk (by simp) (by omega) W
          rw [hq1'] at this
          exact this
        have a3 : ∀ W, (Op.stringOp .add ⟨q1'.toArray⟩ ⟨xx.toArray⟩).run Try.prog W = .ok (.string ⟨q2'.toArray⟩) W := fun W => by
          have := run_cat (P := Try.prog) q1' xx (by omega) (by omega) W
          rw [hq2'] at this
          exact this
        rw [hq1', hq2'] at hre
        have Hn : Hid (out ++ [q2'] = (L.take (i + 1)).map recE) := by rw [← hre]; exact Hn0
        have htr : ∀ W, Calls Try.prog 46 #[.bool false] W fun e w' => e = .returned (.int .i64 0) ∧ W = w' := fun W => w_truth false W
        have hw1 : IntKind.i64.wrap 1 = 1 := by decide
        clear hq1' hq2' hre hc0' hkl Hn0
        go_upto_region 5 with fail
        have bx := (BoxAt.new wo [S [83], S kk, S xx] 91)
        have hbw := hbel.alloc hbel.size (.cells #[S [83], S kk, S xx] 91)
        have hown2 := hown.alloc (.cells #[S [83], S kk, S xx] 91)
        have hwos := hbel.size
        generalize wo.alloc (.cells #[S [83], S kk, S xx] 91) = wa at *
        generalize wo.heap.size = gx at *
        have r0 := bx.cell (j := 0) rfl
        have r1 := bx.cell (j := 1) rfl
        have r2 := bx.cell (j := 2) rfl
        clear q0 q1 q2
        go_region_held3 (fun W => W.cell? ⟨gx, 0, none⟩ = some (S [83]) ∧ W.cell? ⟨gx, 1, none⟩ = some (S kk) ∧ W.cell? ⟨gx, 2, none⟩ = some (S xx)) ((first | exact ⟨r0, r1, r2⟩ | exact ⟨s0, s1, s2⟩ | exact ⟨u0, u1, u2⟩ | exact ⟨v0, v1, v2⟩ | exact ⟨x0, x1, x2⟩)) ((first
          | (go_at_call 46; (with_reducible refine Calls.mono (htr _) ?_); rintro e w4 ⟨rfl, rfl⟩)
          | (go_at_call 45; (with_reducible refine Calls.mono (hc1 wa.drew) ?_); rintro e w5 ⟨rfl, hb5⟩; have bx5 := bx.drew.keep hb5; have s0 := bx5.cell (j := 0) rfl; have s1 := bx5.cell (j := 1) rfl; have s2 := bx5.cell (j := 2) rfl)
          | (go_at_call 45; (with_reducible refine Calls.mono (hc2 w5) ?_); rintro e w6 ⟨rfl, hb6⟩; have bx6 := bx5.keep hb6; have u0 := bx6.cell (j := 0) rfl; have u1 := bx6.cell (j := 1) rfl; have u2 := bx6.cell (j := 2) rfl; have bx7 := bx6.alloc (.cells #[S q2'] 9); have v0 := bx7.cell (j := 0) rfl; have v1 := bx7.cell (j := 1) rfl; have v2 := bx7.cell (j := 2) rfl; have hbw6 := (hbw.drew.trans (hb5.mono hbw.size)).trans (hb6.mono (hbw.drew.trans (hb5.mono hbw.size)).size); have hown6 := ((OwnL.drw hown2).below hb5 (Nat.le_refl _)).below hb6 (Nat.le_refl _); have hlit := own_lit w6 w.heap.size 9 #[S q2'] [q2'] (by rw [flat_S]; rfl) hbw6.size (by simp [maxLen]); have hown7 := OwnL.alc hown6 (.cells #[S q2'] 9))
          | (refine step_app_at encL sl_strT [q2'] rfl _ _ (by rfl) (l := out) (by rfl) hown7 (by rfl) hlit.read (by simp; omega) (by simp [maxLen]; omega) (by simp; have := hbw6.size; omega) ?_; intro A7 c7 w8 ho8 hg8 hr8 hb8; have bx8 := bx7.grn hg8 (BoxAt.apart hown7 bx7 (by decide)); have x0 := bx8.cell (j := 0) rfl; have x1 := bx8.cell (j := 1) rfl; have x2 := bx8.cell (j := 2) rfl)))
        all_goals
          have hbel8 := (hbw6.alloc hbw6.size (.cells #[S q2'] 9)).trans hb8
          clear x0 x1 x2 s0 s1 s2 u0 u1 u2 v0 v1 v2 r0 r1 r2
          go_wp2_with fail
          go_roundw
          case rel => exact ⟨i + 1, out ++ [q2'], A7, c7, by go_num, by simp, by omega, by simp; omega, Hn, ho8, hbel8⟩
          case measure => simp [intOf]; omega
    · obtain rfl : i = L.length := by omega
      have hout := heq.out
      rw [List.take_of_length_le (Nat.le_refl _)] at hout
      have hwl : out.length ≤ 1048576 := by omega
      have hsm : ∀ s ∈ out, s.length ≤ 140737488351232 := fun s hs => by
        rw [hout] at hs
        obtain ⟨e, he, rfl⟩ := List.mem_map.1 hs
        have := recE_len (ho e he)
        omega
      have hW := w_WriteR out hwl hsm A2 c2 wo hown.read
      have hwv : writeL out = .ok (imgGo 0 L) := by rw [hout]; exact writeL_recs ho (by omega)
      rw [hwv] at hW
      clear hwv hout heq hsm ho
      go_wp2_with fail
      refine Calls.mono hW ?_
      intro e w4 hp
      obtain ⟨rfl, hb4⟩ : e = .returned (.tuple #[S (imgGo 0 L), .int .i64 0]) ∧ Below wo.heap.size wo w4 := hp
      have hfin := hbel.trans (hb4.mono hbel.size)
      go_wp2_with fail
      go_ret
      exact ⟨rfl, hfin⟩
end Go.Proofs.Ytbchkaoocobpfaa
