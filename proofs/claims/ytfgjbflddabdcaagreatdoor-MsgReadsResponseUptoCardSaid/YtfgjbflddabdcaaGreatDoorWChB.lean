/- Walk: the reference's ChunksBack. -/
import Derived.Test.YtfgjbflddabdcaaGreatDoorWChR
import Derived.Test.YtfgjbflddabdcaaGreatDoorWFpR
import Derived.Test.YtfgjbflddabdcaaGreatDoorSpecs
namespace Go.Larder
open Go.RowKit
set_option linter.unusedVariables false
/-- what a reading tells, of a text of L bytes -/
def bkR (L : Nat) : Rd → List UInt8 × Int × Int
  | .short _ _ _ => ([], 0, 8)
  | .err e => ([], 0, e)
  | .fin out r => (out, (L : Int) - r.length, 0)
theorem backE_bk (s : List UInt8) : backE s = bkR s.length (rdS .hd [] s) := by
  unfold backE bkR; cases rdS .hd [] s <;> rfl
theorem bk_head_err {L : Nat} {o r : List UInt8} {e : Int} (h : headS r = .error e) : bkR L (rdS .hd o r) = ([], 0, e) := by
  by_cases h8 : e = 8
  · rw [rd_short (show stepS .hd o r = .short from by simp [stepS, h, h8])]; simp [bkR, h8]
  · rw [rd_err (show stepS .hd o r = .err e from by simp [stepS, h, h8])]; rfl
theorem bk_large {L : Nat} {o r : List UInt8} {n k : Nat} (h : headS r = .ok (n, k)) (h5 : 5000 < o.length + n) : bkR L (rdS .hd o r) = ([], 0, 2) := by
  rw [rd_err (show stepS .hd o r = .err 2 from by simp [stepS, h, h5])]; rfl
theorem bk_zero {L : Nat} {o r : List UInt8} {k : Nat} (h : headS r = .ok (0, k)) (h5 : ¬ 5000 < o.length) : bkR L (rdS .hd o r) = bkR L (rdS .tr o (r.drop k)) := by
  rw [rd_go (show stepS .hd o r = .go .tr o (r.drop k) from by simp [stepS, h, h5])]
theorem bk_data {L : Nat} {o r : List UInt8} {n k : Nat} (h : headS r = .ok (n, k)) (h5 : ¬ 5000 < o.length + n) (hn : ¬ n = 0) : bkR L (rdS .hd o r) = bkR L (rdS (.dt n) o (r.drop k)) := by
  rw [rd_go (show stepS .hd o r = .go (.dt n) o (r.drop k) from by simp [stepS, h, h5, hn])]
theorem bk_dshort {L : Nat} {o r : List UInt8} {n : Nat} (h : r.length ≤ n ∨ r.drop n = [13]) : bkR L (rdS (.dt n) o r) = ([], 0, 8) := by
  rw [rd_short (show stepS (.dt n) o r = .short from by
    simp only [stepS]
    by_cases h1 : r.length ≤ n
    · rw [if_pos h1]
    · rw [if_neg h1, if_pos (h.resolve_left h1)])]
  rfl
theorem bk_dbad {L : Nat} {o r : List UInt8} {n : Nat} (h1 : ¬ r.length ≤ n) (h2 : ¬ r.drop n = [13]) (h3 : ¬ (r.drop n).take 2 = [13, 10]) : bkR L (rdS (.dt n) o r) = ([], 0, 3) := by
  rw [rd_err (show stepS (.dt n) o r = .err 3 from by simp [stepS, h1, h2, h3])]; rfl
theorem bk_dgo {L : Nat} {o r : List UInt8} {n : Nat} (h1 : ¬ r.length ≤ n) (h2 : ¬ r.drop n = [13]) (h3 : (r.drop n).take 2 = [13, 10]) : bkR L (rdS (.dt n) o r) = bkR L (rdS .hd (o ++ r.take n) (r.drop (n + 2))) := by
  rw [rd_go (show stepS (.dt n) o r = .go .hd (o ++ r.take n) (r.drop (n + 2)) from by simp [stepS, h1, h2, h3])]
theorem bk_terr {L : Nat} {o r : List UInt8} {e : Int} (h : fpE r = .error e) : bkR L (rdS .tr o r) = ([], 0, e) := by
  by_cases h8 : e = 8
  · rw [rd_short (show stepS .tr o r = .short from by simp [stepS, h, h8])]; simp [bkR, h8]
  · rw [rd_err (show stepS .tr o r = .err e from by simp [stepS, h, h8])]; rfl
theorem bk_tok {L : Nat} {o r : List UInt8} {q : List (List UInt8 × List UInt8)} {k : Nat} (h : fpE r = .ok (q, k)) : bkR L (rdS .tr o r) = (o, (L : Int) - (r.drop k).length, 0) := by
  rw [rd_fin (show stepS .tr o r = .fin (r.drop k) from by simp [stepS, h])]; rfl
theorem take2_13 (q : List UInt8) : (q.take 2 == [13]) = (q == [13]) := by
  match q with
  | [] => rfl
  | [a] => rfl
  | a :: b :: c => simp
end Go.Larder
namespace Go.Proofs.YtfgjbflddabdcaaGreatDoor
open Go.RowKit Go.Larder
set_option linter.unusedVariables false
set_option linter.unusedSimpArgs false
def bkV (t : List UInt8 × Int × Int) : Value := .tuple #[S t.1, .int .i64 t.2.1, .int .i64 t.2.2]
set_option maxHeartbeats 8000000 in
set_option maxRecDepth 100000 in
theorem ch_back (s : List UInt8) (hs : s.length ≤ 1048576) (w : World) (hM : ML w) :
    Calls Tryz.prog 52 #[S s] w fun e w' => e = .returned (bkV (backE s)) ∧ Below w.heap.size w w' := by
  rw [backE_bk]
  obtain ⟨B, hB⟩ : ∃ B, bkR s.length (rdS .hd [] s) = B := ⟨_, rfl⟩
  rw [hB]
  have HB := Lib.hid hB
  clear hB
  go_enter Tryz.func52, Tryz.ntmps52
  go_wp2_with fail
  go_loopw [5, 6] (fun o' a' wr => ∃ (o : List UInt8) (a : Nat), o' = S o ∧ a' = .int .i64 a ∧ a ≤ s.length ∧ o.length ≤ 5000 ∧ Hid (bkR s.length (rdS .hd o (s.drop a)) = B) ∧ wr = w) (fun _ a' _ => s.length - (intOf a').toNat)
  case atStart => exact ⟨[], 0, rfl, rfl, by omega, by simp, HB, rfl⟩
  case round =>
    obtain ⟨o, a, rfl, rfl, ha, ho, hh, rfl⟩ := hrel
    clear HB
    obtain ⟨r, hr⟩ : ∃ r, s.drop a = r := ⟨_, rfl⟩
    have hrl : r.length = s.length - a := by rw [← hr, List.length_drop]
    have sl := fun w => run_sliceT (P := Tryz.prog) 9 Tryz.underlying9 s (a : Int) (by omega) (by omega) w
    rw [Int.toNat_natCast, hr] at sl
    rw [hr] at hh
    have hch := ch_head r (by omega) wr
    cases hq : headS r with
    | error e =>
      have HQ := Lib.hid (show B = ([], 0, e) from by rw [← hh.out, bk_head_err hq])
      have hz : (e == 0) = false := by have := headS_err hq; simpa using this
      rw [hq] at hch
      simp only [chTup] at hch
      clear hh hq hr
      go_wp2_with (go_at_call 86; refine hch.mono ?_; rintro e w' ⟨rfl, rfl⟩)
      go_ret3
      rw [HQ.out]
      exact ⟨rfl, Below.refl _ _⟩
    | ok p =>
      obtain ⟨n, k⟩ := p
      have hkr := (head_ok hq).2.2.2.2
      have hnx := hx_bd r
      rw [← (head_ok hq).2.2.1] at hnx
      rw [hq] at hch
      simp only [chTup] at hch
      by_cases h5 : 5000 < o.length + n
      · have HQ := Lib.hid (show B = ([], 0, 2) from by rw [← hh.out, bk_large hq h5])
        clear hh hq hr
        go_wp2_with (go_at_call 86; refine hch.mono ?_; rintro e w' ⟨rfl, rfl⟩)
        go_ret3
        rw [HQ.out]
        exact ⟨rfl, Below.refl _ _⟩
      · obtain ⟨r2, hr2⟩ : ∃ r2, s.drop (a + k) = r2 := ⟨_, rfl⟩
        have hr2' : r.drop k = r2 := by rw [← hr, List.drop_drop, ← hr2]
        have hr2l : r2.length = s.length - a - k := by rw [← hr2, List.length_drop]; omega
        by_cases hn : n = 0
        · subst hn
          have HQ := Lib.hid (show bkR s.length (rdS .tr o r2) = B from by rw [← hh.out, bk_zero hq (by omega), hr2'])
          have sl2 := fun w => run_sliceT (P := Tryz.prog) 9 Tryz.underlying9 s ((a : Int) + (k : Int)) (by omega) (by omega) w
          rw [show ((a : Int) + (k : Int)).toNat = a + k from by omega, hr2] at sl2
          have hfp := w_FParseR r2 (by omega) wr hM
          cases hf : fpE r2 with
          | error e =>
            have HQ2 := Lib.hid (show B = ([], 0, e) from by rw [← HQ.out, bk_terr hf])
            have hz : (e == 0) = false := by have := fpE_err hf; simpa using this
            rw [hf] at hfp
            clear hh hq hr hr2 hr2' HQ hf
            go_wp2_with (first
              | (go_at_call 86; refine hch.mono ?_; rintro e w' ⟨rfl, rfl⟩)
              | (go_at_call 51; refine hfp.mono ?_; rintro e w1 ⟨rfl, hb1⟩))
            go_ret3
            rw [HQ2.out]
            exact ⟨rfl, hb1⟩
          | ok p =>
            obtain ⟨q, k2⟩ := p
            have hk2 := fpE_len hf
            have HQ2 := Lib.hid (show B = (o, (a : Int) + (k : Int) + (k2 : Int), 0) from by rw [← HQ.out, bk_tok hf, List.length_drop]; congr 2; omega)
            rw [hf] at hfp
            clear hh hq hr hr2 hr2' HQ hf
            go_wp2_with (first
              | (go_at_call 86; refine hch.mono ?_; rintro e w' ⟨rfl, rfl⟩)
              | (go_at_call 51; refine hfp.mono ?_; rintro e w1 ⟨A1, c1, rfl, ho1, hb1⟩))
            go_ret3
            rw [HQ2.out]
            exact ⟨rfl, hb1⟩
        · have hz : ((n : Int) == 0) = false := by simp; omega
          have HQ := Lib.hid (show bkR s.length (rdS (.dt n) o r2) = B from by rw [← hh.out, bk_data hq h5 hn, hr2'])
          by_cases hln : r2.length ≤ n
          · have HQ2 := Lib.hid (show B = ([], 0, 8) from by rw [← HQ.out, bk_dshort (.inl hln)])
            have hle : (s.length : Int) ≤ (a : Int) + (k : Int) + (n : Int) := by omega
            clear hh hq hr hr2 hr2' HQ
            go_wp2_with (go_at_call 86; refine hch.mono ?_; rintro e w' ⟨rfl, rfl⟩)
            go_ret3
            rw [HQ2.out]
            exact ⟨rfl, Below.refl _ _⟩
          · have hle : ¬ (s.length : Int) ≤ (a : Int) + (k : Int) + (n : Int) := by omega
            obtain ⟨M, hMd⟩ : ∃ M : Nat, min s.length (a + k + n + 2) = M := ⟨_, rfl⟩
            have hmin : min (s.length : Int) ((a : Int) + (k : Int) + (n : Int) + 2) = (M : Int) := by omega
            have hM1 : a + k + n ≤ M ∧ M ≤ s.length := by omega
            have sl3 := fun w => run_sliceS (P := Tryz.prog) 9 Tryz.underlying9 s ((a : Int) + (k : Int) + (n : Int)) (M : Int) (by omega) (by omega) (by omega) w
            have he3 : (s.drop (a + k + n)).take (M - (a + k + n)) = (r2.drop n).take 2 := by
              rw [← hr2, List.drop_drop]
              by_cases h2 : a + k + n + 2 ≤ s.length
              · rw [show M - (a + k + n) = 2 from by omega]
              · rw [List.take_of_length_le (by rw [List.length_drop]; omega), List.take_of_length_le (by rw [List.length_drop]; omega)]
            rw [Int.toNat_natCast, show ((a : Int) + (k : Int) + (n : Int)).toNat = a + k + n from by omega, he3] at sl3
            cases h13 : (r2.drop n == [13])
            · have h13' : ¬ r2.drop n = [13] := by simpa using h13
              have t13 : ((r2.drop n).take 2 == [13]) = false := by rw [take2_13]; exact h13
              cases h2 : ((r2.drop n).take 2 == [13, 10])
              · have h2' : ¬ (r2.drop n).take 2 = [13, 10] := by simpa using h2
                have HQ2 := Lib.hid (show B = ([], 0, 3) from by rw [← HQ.out, bk_dbad hln h13' h2'])
                clear hh hq hr hr2 hr2' HQ he3 h13 h13' h2' hMd
                generalize (r2.drop n).take 2 = q at *
                go_wp2_with (go_at_call 86; refine hch.mono ?_; rintro e w' ⟨rfl, rfl⟩)
                go_ret3
                rw [HQ2.out]
                exact ⟨rfl, Below.refl _ _⟩
              · have h2' : (r2.drop n).take 2 = [13, 10] := by simpa using h2
                have hl2 : n + 2 ≤ r2.length := by
                  have := congrArg List.length h2'
                  rw [List.length_take, List.length_drop] at this
                  simp at this
                  omega
                have sl4 := fun w => run_sliceS (P := Tryz.prog) 9 Tryz.underlying9 s ((a : Int) + (k : Int)) ((a : Int) + (k : Int) + (n : Int)) (by omega) (by omega) (by omega) w
                rw [show ((a : Int) + (k : Int) + (n : Int)).toNat - ((a : Int) + (k : Int)).toNat = n from by omega, show ((a : Int) + (k : Int)).toNat = a + k from by omega, hr2] at sl4
                have hml : (r2.take n).length = n := by rw [List.length_take]; omega
                have HQ2 := Lib.hid (show bkR s.length (rdS .hd (o ++ r2.take n) (s.drop (a + k + (n + 2)))) = B from by rw [← HQ.out, bk_dgo hln h13' h2', ← hr2, List.drop_drop])
                obtain ⟨m, hm⟩ : ∃ m, r2.take n = m := ⟨_, rfl⟩
                rw [hm] at sl4 hml HQ2
                have cat : ∀ w, (Op.stringOp .add ⟨o.toArray⟩ ⟨m.toArray⟩).run Tryz.prog w = .ok (.string ⟨(o ++ m).toArray⟩) w := fun w => run_cat o m (by omega) (by omega) w
                clear hh hq hr hr2 hr2' HQ he3 h13 h13' h2' hMd hm
                generalize (r2.drop n).take 2 = q at *
                go_wp2_with (go_at_call 86; refine hch.mono ?_; rintro e w' ⟨rfl, rfl⟩)
                go_roundw
                case rel => exact ⟨o ++ m, a + k + (n + 2), rfl, by go_num, by omega, by rw [List.length_append]; omega, HQ2, by trivial⟩
                case measure => simp [intOf]; omega
            · have h13' : r2.drop n = [13] := by simpa using h13
              have t13 : ((r2.drop n).take 2 == [13]) = true := by rw [take2_13]; exact h13
              have HQ2 := Lib.hid (show B = ([], 0, 8) from by rw [← HQ.out, bk_dshort (.inr h13')])
              clear hh hq hr hr2 hr2' HQ he3 h13 h13' hMd
              generalize (r2.drop n).take 2 = q at *
              go_wp2_with (go_at_call 86; refine hch.mono ?_; rintro e w' ⟨rfl, rfl⟩)
              go_ret3
              rw [HQ2.out]
              exact ⟨rfl, Below.refl _ _⟩
end Go.Proofs.YtfgjbflddabdcaaGreatDoor
