/- Walk: the law of BodyComes: a decoder, whatever comes. -/
import Derived.Test.YtfgjbflddabdcaaDoorWDcD
import Derived.Test.YtfgjbflddabdcaaDoorWChB
namespace Go.Larder
open Go.RowKit
set_option linter.unusedVariables false
set_option linter.unusedSimpArgs false
theorem rd_len : ∀ (k : Nat) {s s' : Stg} {out out' r r' : List UInt8}, r.length < k → rdS s out r = .short s' out' r' → r'.length ≤ r.length
  | 0, _, _, _, _, _, _, h, _ => absurd h (Nat.not_lt_zero _)
  | k + 1, s, s', out, out', r, r', hk, h => by
    cases hq : stepS s out r with
    | short => rw [rd_short hq] at h; injection h with e1 e2 e3; rw [e3]; exact Nat.le_refl _
    | err e => rw [rd_err hq] at h; cases h
    | fin r2 => rw [rd_fin hq] at h; cases h
    | go s2 out2 r2 =>
      rw [rd_go hq] at h
      have h1 := step_shrinks hq
      have h2 := rd_len k (by omega) h
      omega
theorem rd_fin_len : ∀ (k : Nat) {s : Stg} {out out' r r' : List UInt8}, r.length < k → rdS s out r = .fin out' r' → r'.length ≤ r.length
  | 0, _, _, _, _, _, h, _ => absurd h (Nat.not_lt_zero _)
  | k + 1, s, out, out', r, r', hk, h => by
    cases hq : stepS s out r with
    | short => rw [rd_short hq] at h; cases h
    | err e => rw [rd_err hq] at h; cases h
    | fin r2 =>
      rw [rd_fin hq] at h
      injection h with e1 e2
      subst e2
      unfold stepS at hq
      cases s with
      | hd => simp only at hq; split at hq <;> (try split at hq) <;> cases hq
      | dt n => simp only at hq; split at hq <;> (try split at hq) <;> (try split at hq) <;> cases hq
      | tr =>
        simp only at hq
        split at hq
        · split at hq <;> cases hq
        · injection hq with hq; subst hq; rw [List.length_drop]; omega
    | go s2 out2 r2 =>
      rw [rd_go hq] at h
      have h1 := step_shrinks hq
      have h2 := rd_fin_len k (by omega) h
      omega
theorem rd_x : rdS .hd [] [120] = .err 3 := rd_err (by
  have h : headS [120] = .error 3 := by
    unfold headS
    rw [if_neg (by simp), if_pos (by unfold hk; rw [tw_stop (by decide)])]
  simp [stepS, h])
theorem sum_drop {l : List (List UInt8)} {k : Nat} {x : List UInt8} (h : l.drop k = x :: l.drop (k + 1)) : ((l.drop k).map (fun s => s.length + 1)).sum = x.length + 1 + ((l.drop (k + 1)).map (fun s => s.length + 1)).sum := by rw [h]; simp
end Go.Larder
namespace Go.Proofs.YtfgjbflddabdcaaDoor
open Go.RowKit Go.Larder
set_option linter.unusedVariables false
set_option linter.unusedSimpArgs false
theorem DecAt.keep {W W' : World} {b : Nat} {st : Stg} {out r : List UInt8} {d : Bool} (h : DecAt W b st out r d) (hb : Below W.heap.size W W') : DecAt W' b st out r d := by
  obtain ⟨left, A, c, bx, ho, h1, h2⟩ := h
  exact ⟨left, A, c, bx.keep hb, ho.below hb (Nat.le_refl _), h1, h2⟩
theorem dc_WriteNo (b : Nat) (d e : Bool) (hde : (d || e) = true) (s : List UInt8) (W : World) (h4 : W.cell? ⟨b, 4, none⟩ = some (.bool d)) (h5 : W.cell? ⟨b, 5, none⟩ = some (.bool e)) :
    Calls Tryd.prog 12 #[.pointer (some ⟨b, 0, none⟩), S s] W fun e' w' => e' = .returned (.tuple #[.int .i64 0, .int .i64 7]) ∧ W = w' := by
  cases d
  · cases e
    · cases hde
    · go_enter Tryd.func12, Tryd.ntmps12
      go_wp2_with fail
      go_ret2
      exact ⟨rfl, rfl⟩
  · go_enter Tryd.func12, Tryd.ntmps12
    go_wp2_with fail
    go_ret2
    exact ⟨rfl, rfl⟩
/-- What the decoder stands at, all that came being known. -/
def Cm (W : World) (b : Nat) (all : List UInt8) (bad over : Bool) : Prop :=
  (bad = false ∧ over = false ∧ ∃ st out r, DecAt W b st out r false ∧ r.length ≤ all.length ∧ ∀ x, rdS .hd [] (all ++ x) = rdS st out (r ++ x)) ∨
  (bad = true ∧ over = false ∧ ∃ f r left A n c, BoxAt W b 67 (decC f r left A n c false true)) ∨
  (bad = false ∧ over = true ∧ ∃ out r, DecAt W b .tr out r true)
theorem Cm.cell {W : World} {b : Nat} {all : List UInt8} {bad over : Bool} (h : Cm W b all bad over) : W.cell? ⟨b, 4, none⟩ = some (.bool over) := by
  rcases h with ⟨_, rfl, st, out, r, h, _⟩ | ⟨_, rfl, f, r, left, A, n, c, h⟩ | ⟨_, rfl, out, r, h⟩
  · exact h.cells.2.2.1
  · exact h.cell (j := 4) rfl
  · exact h.cells.2.2.1
theorem Cm.keep {W W' : World} {b : Nat} {all : List UInt8} {bad over : Bool} (h : Cm W b all bad over) (hb : Below W.heap.size W W') : Cm W' b all bad over := by
  rcases h with ⟨h1, h2, st, out, r, h, hx⟩ | ⟨h1, h2, f, r, left, A, n, c, h⟩ | ⟨h1, h2, out, r, h⟩
  · exact .inl ⟨h1, h2, st, out, r, h.keep hb, hx⟩
  · exact .inr (.inl ⟨h1, h2, f, r, left, A, n, c, h.keep hb⟩)
  · exact .inr (.inr ⟨h1, h2, out, r, h.keep hb⟩)
set_option maxHeartbeats 8000000 in
set_option maxRecDepth 100000 in
theorem dc_law (l : List (List UInt8)) (hl : (l.map (fun s => s.length + 1)).sum ≤ 1048576) (A : Option Addr) (c : Nat) (w : World) (hr : ReadL encS w w.heap.size A l) (hM : ML w) :
    Calls Tryd.prog 4 #[.slice A l.length c] w fun e w' => e = .returned (.bool true) ∧ Below w.heap.size w w' := by
  have hn := dc_New w
  have hll : l.length ≤ 1048576 := by
    have : ∀ l : List (List UInt8), l.length ≤ (l.map (fun s => s.length + 1)).sum := fun l => by
      induction l with
      | nil => simp
      | cons a l ih => simp only [List.map_cons, List.sum_cons, List.length_cons]; omega
    have := this l
    omega
  have hMb : ∀ W', Below w.heap.size w W' → ML W' := fun W' hb => hM.keep hb
  go_enter Tryd.func4, Tryd.ntmps4
  go_wp2_with fail
  refine hn.mono ?_
  rintro e w1 ⟨rfl, hd1, hb1⟩
  clear hn
  have hcm : Cm w1 w.heap.size [] false false := .inl ⟨rfl, rfl, .hd, [], [], hd1, by simp, fun x => rfl⟩
  go_wp2_with fail
  go_loopw [4, 5, 6, 22] (fun a' bad' ov' i' wr => ∃ (k : Nat) (all : List UInt8) (bad over : Bool), a' = S all ∧ bad' = .bool bad ∧ ov' = .bool over ∧ i' = .int .i64 k ∧ k ≤ l.length ∧ all.length + ((l.drop k).map (fun s => s.length + 1)).sum ≤ 1048576 ∧ Below w.heap.size w wr ∧ Cm wr w.heap.size all bad over) (fun _ _ _ i' _ => l.length - (intOf i').toNat)
  case atStart => exact ⟨0, [], false, false, rfl, rfl, rfl, rfl, by omega, by simpa using hl, hb1, hcm⟩
  case round =>
    obtain ⟨k, all, bad, over, rfl, rfl, rfl, rfl, hk, hsum, hbel, hcm⟩ := hrel
    have hMr := hMb _ hbel
    by_cases hlt : k < l.length
    · obtain ⟨x, hx, hd⟩ := drop_step hlt
      obtain ⟨g, off, rfl, hgb, hc0⟩ := (hr.below hbel (Nat.le_refl _)).at_S hx
      rw [sum_drop hd] at hsum
      clear hd hx
      rcases hcm with ⟨rfl, rfl, st, out, r, hda, hrl, hinv⟩ | ⟨rfl, rfl, f, r, left, A, n, c', bx⟩ | ⟨rfl, rfl, out, r, hda⟩
      · have hwr := dc_Write w.heap.size st out r x (by omega) wr hMr (fun W' h => hMb _ (hbel.trans h)) hda
        have hbk := fun W hMW => ch_back (all ++ x) (by rw [List.length_append]; omega) W hMW
        rw [backE_bk] at hbk
        obtain ⟨a2, ha2⟩ : ∃ a2, all ++ x = a2 := ⟨_, rfl⟩
        have hal : a2.length = all.length + x.length := by rw [← ha2, List.length_append]
        have cat : ∀ w, (Op.stringOp .add ⟨all.toArray⟩ ⟨x.toArray⟩).run Tryd.prog w = .ok (.string ⟨a2.toArray⟩) w := fun w => by rw [← ha2]; exact run_cat all x (by omega) (by omega) w
        rw [hinv x, ha2] at hbk
        cases hq : rdS st out (r ++ x) with
        | short st' out' r' =>
          have hrl2 := rd_len _ (Nat.lt_succ_self _) hq
          rw [List.length_append] at hrl2
          have hinv2 : ∀ y, rdS .hd [] (a2 ++ y) = rdS st' out' (r' ++ y) := fun y => by
            rw [← ha2, List.append_assoc, hinv (x ++ y), ← List.append_assoc]
            exact rd_mono _ (Nat.lt_succ_self _) hq y
          have Hinv := Lib.hid hinv2
          rw [hq] at hwr hbk
          simp only [bkR, bkV] at hbk
          clear hinv hinv2 hq ha2 hda
          go_wp2_with fail
          refine hwr.mono ?_
          rintro e w2 ⟨hb2, rfl, hd2⟩
          have hB2 := hbel.trans hb2
          have hbk2 := hbk _ (hMb _ hB2)
          clear hwr hbk
          go_wp2_with fail
          refine hbk2.mono ?_
          rintro e w3 ⟨rfl, hb3⟩
          have hd3 := hd2.keep hb3
          have hB3 := hB2.trans (hb3.mono hB2.size)
          have hdn := dc_Done w.heap.size false w3 hd3.cells.2.2.1
          have hbo := dc_BodyNo w.heap.size w3 hd3.cells.2.2.1
          clear hbk2
          go_wp2_with (first
            | (go_at_call 14; refine hdn.mono ?_; rintro e w' ⟨rfl, rfl⟩)
            | (go_at_call 15; refine hbo.mono ?_; rintro e w' ⟨rfl, rfl⟩))
          go_roundw
          case rel => exact ⟨k + 1, a2, false, false, rfl, rfl, rfl, by go_num, by omega, by omega, hB3, .inl ⟨rfl, rfl, st', out', r', hd3, by omega, Hinv.out⟩⟩
          case measure => simp [intOf]; omega
        | err n =>
          obtain ⟨hn0, hn8⟩ := rd_err_ne _ (Nat.lt_succ_self _) hq
          have z0 : (n == 0) = false := by simpa using hn0
          have z8 : (n == 8) = false := by simpa using hn8
          rw [hq] at hwr hbk
          simp only [bkR, bkV] at hbk
          clear hinv hq ha2 hda hn0 hn8
          go_wp2_with fail
          refine hwr.mono ?_
          rintro e w2 ⟨hb2, rfl, f2, r2, left2, A2, n2, c2, bx2⟩
          have hB2 := hbel.trans hb2
          have hbk2 := hbk _ (hMb _ hB2)
          clear hwr hbk
          go_wp2_with fail
          refine hbk2.mono ?_
          rintro e w3 ⟨rfl, hb3⟩
          have bx3 := bx2.keep hb3
          have hB3 := hB2.trans (hb3.mono hB2.size)
          have hdn := dc_Done w.heap.size false w3 (bx3.cell (j := 4) rfl)
          have hbo := dc_BodyNo w.heap.size w3 (bx3.cell (j := 4) rfl)
          clear hbk2
          go_wp2_with (first
            | (go_at_call 14; refine hdn.mono ?_; rintro e w' ⟨rfl, rfl⟩)
            | (go_at_call 15; refine hbo.mono ?_; rintro e w' ⟨rfl, rfl⟩))
          go_roundw
          case rel => exact ⟨k + 1, a2, true, false, rfl, rfl, rfl, by go_num, by omega, by omega, hB3, .inr (.inl ⟨rfl, rfl, f2, r2, left2, A2, n2, c2, bx3⟩)⟩
          case measure => simp [intOf]; omega
        | fin out' r' =>
          rw [hq] at hwr hbk
          simp only [bkR, bkV] at hbk
          have hrl3 := rd_fin_len _ (Nat.lt_succ_self _) hq
          rw [List.length_append] at hrl3
          have hnum : (a2.length : Int) - (r'.length : Int) - (all.length : Int) = (x.length : Int) - (r'.length : Int) := by omega
          clear hinv hq ha2 hda
          go_wp2_with fail
          refine hwr.mono ?_
          rintro e w2 ⟨hb2, rfl, hd2⟩
          have hB2 := hbel.trans hb2
          have hbk2 := hbk _ (hMb _ hB2)
          clear hwr hbk
          go_wp2_with fail
          refine hbk2.mono ?_
          rintro e w3 ⟨rfl, hb3⟩
          have hd3 := hd2.keep hb3
          have hB3 := hB2.trans (hb3.mono hB2.size)
          have hdn := dc_Done w.heap.size true w3 hd3.cells.2.2.1
          have hbo := dc_Body w.heap.size .tr out' r' w3 hd3
          clear hbk2
          go_wp2_with (first
            | (go_at_call 14; refine hdn.mono ?_; rintro e w' ⟨rfl, rfl⟩)
            | (go_at_call 15; refine hbo.mono ?_; rintro e w' ⟨rfl, rfl⟩))
          go_roundw
          case rel => exact ⟨k + 1, a2, false, true, rfl, rfl, rfl, by go_num, by omega, by omega, hB3, .inr (.inr ⟨rfl, rfl, out', r', hd3⟩)⟩
          case measure => simp [intOf]; omega
      · have hwn := dc_WriteNo w.heap.size false true rfl x wr (bx.cell (j := 4) rfl) (bx.cell (j := 5) rfl)
        go_wp2_with (go_at_call 12; refine hwn.mono ?_; rintro e w' ⟨rfl, rfl⟩)
        go_roundw
        case rel => exact ⟨k + 1, all, true, false, rfl, rfl, rfl, by go_num, by omega, by omega, hbel, .inr (.inl ⟨rfl, rfl, f, r, left, A, n, c', bx⟩)⟩
        case measure => simp [intOf]; omega
      · have hwn := dc_WriteNo w.heap.size true false rfl x wr hda.cells.2.2.1 hda.cells.2.2.2.1
        go_wp2_with (go_at_call 12; refine hwn.mono ?_; rintro e w' ⟨rfl, rfl⟩)
        go_roundw
        case rel => exact ⟨k + 1, all, false, true, rfl, rfl, rfl, by go_num, by omega, by omega, hbel, .inr (.inr ⟨rfl, rfl, out, r, hda⟩)⟩
        case measure => simp [intOf]; omega
    · have hn2 := dc_New wr
      have hwx := fun W hMW hMb2 hd => dc_Write wr.heap.size .hd [] [] [120] (by simp) W hMW hMb2 hd
      simp only [List.nil_append, rd_x] at hwx
      go_wp2_with fail
      refine hn2.mono ?_
      rintro e w2 ⟨rfl, hd2, hb2⟩
      have hw2 := hwx w2 (hMr.keep hb2) (fun W' h => hMr.keep (hb2.trans h)) hd2
      clear hwx hn2
      go_wp2_with fail
      refine hw2.mono ?_
      rintro e w3 ⟨hb3, rfl, hx3⟩
      have hcm3 := hcm.keep (hb2.trans hb3)
      have hdn := dc_Done w.heap.size over w3 hcm3.cell
      go_wp2_with fail
      refine hdn.mono ?_
      rintro e w4 ⟨rfl, rfl⟩
      go_wp2_with fail
      go_ret
      exact ⟨by simp, hbel.trans ((hb2.trans hb3).mono hbel.size)⟩
end Go.Proofs.YtfgjbflddabdcaaDoor
