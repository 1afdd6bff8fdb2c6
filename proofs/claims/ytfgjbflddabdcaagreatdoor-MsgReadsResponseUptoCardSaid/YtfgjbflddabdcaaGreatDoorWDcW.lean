/- Walks: a decoder: a step, Write, New, Done, Body, Decode. -/
import Derived.Test.YtfgjbflddabdcaaGreatDoorWDcS
import Derived.Deep.RegionWith
namespace Go.Proofs.YtfgjbflddabdcaaGreatDoor
open Go.RowKit Go.Larder
set_option linter.unusedVariables false
set_option linter.unusedSimpArgs false
def stF : Stg → Nat
  | .hd => 113
  | .dt _ => 142
  | .tr => 143
/-- A decoder that stands at a stage. -/
def DecAt (W : World) (b : Nat) (st : Stg) (out rest : List UInt8) (done : Bool) : Prop :=
  ∃ left A c, BoxAt W b 127 (decC (stF st) rest left A out.length c done false) ∧ OwnL encB W (b + 1) 5 A c out ∧ out.length ≤ 5000 ∧ ∀ n, st = .dt n → left = n ∧ out.length + n ≤ 5000
def StepOut (W : World) (b : Nat) (st : Stg) (out rest : List UInt8) (e : Ending) (W' : World) : Prop :=
  Below b W W' ∧ match stepS st out rest with
    | .short => e = .returned (.tuple #[.int .i64 0, .int .i64 8]) ∧ DecAt W' b st out rest false
    | .err n => e = .returned (.tuple #[.int .i64 0, .int .i64 n]) ∧ n ≠ 0 ∧ n ≠ 8 ∧ ∃ f left A k c, BoxAt W' b 127 (decC f rest left A k c false false)
    | .go st' out' r' => ∃ k : Nat, e = .returned (.tuple #[.int .i64 k, .int .i64 0]) ∧ r' = rest.drop k ∧ k ≤ rest.length ∧ DecAt W' b st' out' rest false
    | .fin r' => ∃ k : Nat, e = .returned (.tuple #[.int .i64 k, .int .i64 0]) ∧ r' = rest.drop k ∧ k ≤ rest.length ∧ DecAt W' b .tr out rest true
theorem dc_step (b : Nat) (st : Stg) (out rest : List UInt8) (hs : rest.length ≤ 1048576) (W : World) (hM : ML W) (hd : DecAt W b st out rest false) :
    Calls Tryz.prog (stF st) #[.pointer (some ⟨b, 0, none⟩), S rest] W (StepOut W b st out rest) := by
  obtain ⟨left, A, c, bx, hown, ho, hl⟩ := hd
  cases st with
  | hd =>
    refine (dc_head b rest out rest (by omega) left A c false false ho W bx hown).mono ?_
    rintro e W' ⟨hb, ho', hp⟩
    refine ⟨hb, ?_⟩
    simp only [stepS]
    cases hq : headS rest with
    | error n =>
      rw [hq] at hp
      simp only at hp ⊢
      obtain ⟨he, hbx⟩ := hp
      by_cases h8 : n = 8
      · rw [if_pos h8]
        subst h8
        exact ⟨he, left, A, c, hbx, ho', ho, fun n h => by cases h⟩
      · rw [if_neg h8]
        exact ⟨he, headS_err hq, h8, _, left, A, _, c, hbx⟩
    | ok p =>
      obtain ⟨n, k⟩ := p
      rw [hq] at hp
      simp only at hp ⊢
      obtain ⟨he, hbx⟩ := hp
      have hk := (head_ok hq).2.2.2.2
      by_cases h5 : 5000 < out.length + n
      · rw [if_pos h5] at he ⊢
        rw [if_pos h5] at he
        exact ⟨he, by omega, by omega, _, n, A, _, c, hbx⟩
      · rw [if_neg h5] at he ⊢
        rw [if_neg h5] at he
        refine ⟨k, he, rfl, hk, n, A, c, ?_, ho', ho, ?_⟩
        · by_cases hn : n = 0
          · rw [if_pos hn] at hbx ⊢; exact hbx
          · rw [if_neg hn] at hbx ⊢; exact hbx
        · intro m hm
          by_cases hn : n = 0
          · rw [if_pos hn] at hm; cases hm
          · rw [if_neg hn] at hm; injection hm with hm; subst hm; exact ⟨rfl, by omega⟩
  | dt n =>
    obtain ⟨rfl, hn5⟩ := hl n rfl
    refine (dc_data b rest out rest (by omega) n hn5 A c false false W bx hown).mono ?_
    rintro e W' ⟨hb, hp⟩
    refine ⟨hb, ?_⟩
    simp only [stepS]
    by_cases h1 : rest.length ≤ n
    · rw [if_pos (.inl h1)] at hp
      rw [if_pos h1]
      exact ⟨hp.1, n, A, c, hp.2.1, hp.2.2, ho, fun m hm => by injection hm with hm; subst hm; exact ⟨rfl, hn5⟩⟩
    · rw [if_neg h1]
      by_cases h13 : rest.drop n = [13]
      · rw [if_pos (.inr h13)] at hp
        rw [if_pos h13]
        exact ⟨hp.1, n, A, c, hp.2.1, hp.2.2, ho, fun m hm => by injection hm with hm; subst hm; exact ⟨rfl, hn5⟩⟩
      · rw [if_neg (fun h => h.elim h1 h13)] at hp
        rw [if_neg h13]
        by_cases h2 : (rest.drop n).take 2 = [13, 10]
        · rw [if_pos h2] at hp ⊢
          obtain ⟨he, A', c', hbx, ho'⟩ := hp
          have hl2 : n + 2 ≤ rest.length := by
            have := congrArg List.length h2
            rw [List.length_take, List.length_drop] at this
            simp at this
            omega
          have hlm : (rest.take n).length = n := by rw [List.length_take]; omega
          refine ⟨n + 2, by rw [he]; norm_cast, rfl, hl2, n, A', c', hbx, ho', by rw [List.length_append, hlm]; omega, fun m hm => by cases hm⟩
        · rw [if_neg h2] at hp ⊢
          exact ⟨hp.1, by omega, by omega, _, n, A, _, c, hp.2.1⟩
  | tr =>
    refine (dc_trailer b rest out rest hs left A c false false W hM bx hown).mono ?_
    rintro e W' ⟨hb, ho', hp⟩
    refine ⟨hb, ?_⟩
    simp only [stepS]
    cases hq : fpE rest with
    | error n =>
      rw [hq] at hp
      simp only at hp ⊢
      by_cases h8 : n = 8
      · rw [if_pos h8]
        subst h8
        exact ⟨hp.1, left, A, c, hp.2, ho', ho, fun n h => by cases h⟩
      · rw [if_neg h8]
        exact ⟨hp.1, fpE_err hq, h8, _, left, A, _, c, hp.2⟩
    | ok p =>
      obtain ⟨o, k⟩ := p
      rw [hq] at hp
      simp only at hp ⊢
      exact ⟨k, hp.1, rfl, fpE_len hq, left, A, c, hp.2, ho', ho, fun n h => by cases h⟩
end Go.Proofs.YtfgjbflddabdcaaGreatDoor
namespace Go.Proofs.YtfgjbflddabdcaaGreatDoor
open Go.RowKit Go.Larder
set_option linter.unusedVariables false
set_option linter.unusedSimpArgs false
def WrR (W : World) (b : Nat) (s : List UInt8) (R : Rd) (e : Ending) (W' : World) : Prop :=
  Below b W W' ∧ match R with
    | .short st' out' r' => e = .returned (.tuple #[.int .i64 s.length, .int .i64 0]) ∧ DecAt W' b st' out' r' false
    | .err n => e = .returned (.tuple #[.int .i64 0, .int .i64 n]) ∧ ∃ f r left A k c, BoxAt W' b 127 (decC f r left A k c false true)
    | .fin out' r' => e = .returned (.tuple #[.int .i64 ((s.length : Int) - r'.length), .int .i64 0]) ∧ DecAt W' b .tr out' r' true
/-- A step's outcome, its two numbers first. -/
theorem StepOut.four {W W' : World} {b : Nat} {st : Stg} {out rest : List UInt8} {e : Ending} (h : StepOut W b st out rest e W') : ∃ k ee : Int, e = .returned (.tuple #[.int .i64 k, .int .i64 ee]) ∧ Below b W W' ∧
    ((stepS st out rest = .short ∧ ee = 8 ∧ DecAt W' b st out rest false) ∨
     (stepS st out rest = .err ee ∧ (ee == 0) = false ∧ (ee == 8) = false ∧ ∃ f left A n c, BoxAt W' b 127 (decC f rest left A n c false false)) ∨
     (∃ st2 out2, ∃ j : Nat, stepS st out rest = .go st2 out2 (rest.drop j) ∧ k = j ∧ ee = 0 ∧ j ≤ rest.length ∧ DecAt W' b st2 out2 rest false) ∨
     (∃ j : Nat, stepS st out rest = .fin (rest.drop j) ∧ k = j ∧ ee = 0 ∧ j ≤ rest.length ∧ DecAt W' b .tr out rest true)) := by
  obtain ⟨hb, hp⟩ := h
  cases hq : stepS st out rest with
  | short => rw [hq] at hp; exact ⟨0, 8, hp.1, hb, .inl ⟨rfl, rfl, hp.2⟩⟩
  | err n => rw [hq] at hp; obtain ⟨he, h0, h8, hx⟩ := hp; exact ⟨0, n, he, hb, .inr (.inl ⟨rfl, by simpa using h0, by simpa using h8, hx⟩)⟩
  | go st2 out2 r2 => rw [hq] at hp; obtain ⟨k, he, rfl, hk, hd⟩ := hp; exact ⟨k, 0, he, hb, .inr (.inr (.inl ⟨st2, out2, k, rfl, rfl, rfl, hk, hd⟩))⟩
  | fin r2 => rw [hq] at hp; obtain ⟨k, he, rfl, hk, hd⟩ := hp; exact ⟨k, 0, he, hb, .inr (.inr (.inr ⟨k, rfl, rfl, rfl, hk, hd⟩))⟩
/-- how much is left to be read -/
def leftOf (b : Nat) (w : World) : Nat := 2 * lenOf ((w.cell? ⟨b, 1, none⟩).getD undef) + (match w.cell? ⟨b, 4, none⟩ with
  | some (.bool false) => 1
  | _ => 0)
theorem DecAt.left {W : World} {b : Nat} {st : Stg} {out r : List UInt8} {d : Bool} (h : DecAt W b st out r d) : leftOf b W = 2 * r.length + (if d then 0 else 1) := by
  obtain ⟨left, A, c, bx, _⟩ := h
  have c1 := bx.cell (j := 1) rfl
  have c4 := bx.cell (j := 4) rfl
  unfold leftOf
  rw [c1, c4]
  simp only [Option.getD_some, lenOf_S]
  cases d <;> simp
theorem DecAt.lt {W : World} {b : Nat} {st : Stg} {out r : List UInt8} {d : Bool} (h : DecAt W b st out r d) : b < W.heap.size := by
  obtain ⟨left, A, c, bx, _⟩ := h; exact bx.lt
theorem DecAt.drew {W : World} {b : Nat} {st : Stg} {out r : List UInt8} {d : Bool} (h : DecAt W b st out r d) : DecAt W.drew b st out r d := by
  obtain ⟨left, A, c, bx, ho, h1, h2⟩ := h
  exact ⟨left, A, c, bx.drew, ho.drew, h1, h2⟩
theorem ml_drew {W : World} (h : ML W) : ML W.drew := h
/-- what is left is stored -/
theorem DecAt.rest {W : World} {b : Nat} {st : Stg} {out r : List UInt8} {d : Bool} (h : DecAt W b st out r d) (r' : List UInt8) : DecAt (W.setCell ⟨b, 1, none⟩ (S r')) b st out r' d := by
  obtain ⟨left, A, c, bx, ho, h1, h2⟩ := h
  exact ⟨left, A, c, by simpa [decC] using bx.set 1 (S r'), own_box ho 1 _, h1, h2⟩
theorem DecAt.cells {W : World} {b : Nat} {st : Stg} {out r : List UInt8} {d : Bool} (h : DecAt W b st out r d) : W.cell? ⟨b, 0, none⟩ = some (.func (.func (stF st)) #[] #[]) ∧ W.cell? ⟨b, 1, none⟩ = some (S r) ∧ W.cell? ⟨b, 4, none⟩ = some (.bool d) ∧ W.cell? ⟨b, 5, none⟩ = some (.bool false) ∧ W.frozen? ⟨b, 1, none⟩ = false := by
  obtain ⟨left, A, c, bx, ho, h1, h2⟩ := h
  exact ⟨bx.cell (j := 0) rfl, bx.cell (j := 1) rfl, bx.cell (j := 4) rfl, bx.cell (j := 5) rfl, bx.free 1⟩
theorem stF_enters (st : Stg) (args : Array Value) (w : World) : (callFunc (stF st) args).run Tryz.prog w = .ok (.enter (stF st) args) w := by
  cases st
  · exact enters_of Tryz.func113 (by kernel_rfl) rfl args w
  · exact enters_of Tryz.func142 (by kernel_rfl) rfl args w
  · exact enters_of Tryz.func143 (by kernel_rfl) rfl args w
set_option maxHeartbeats 8000000 in
set_option maxRecDepth 100000 in
theorem dc_Write (b : Nat) (st : Stg) (out rest s : List UInt8) (hs : rest.length + s.length ≤ 1048576) (W : World) (hM : ML W) (hMb : ∀ W', Below b W W' → ML W') (hd : DecAt W b st out rest false) :
    Calls Tryz.prog 80 #[.pointer (some ⟨b, 0, none⟩), S s] W (WrR W b s (rdS st out (rest ++ s))) := by
  obtain ⟨R, hR⟩ : ∃ R, rdS st out (rest ++ s) = R := ⟨_, rfl⟩
  rw [hR]
  have HR := Lib.hid hR
  clear hR
  obtain ⟨c0, c1, c4, c5, f1⟩ := hd.cells
  obtain ⟨B, hB⟩ : ∃ x, rest ++ s = x := ⟨_, rfl⟩
  have lB : B.length = rest.length + s.length := by rw [← hB, List.length_append]
  have a1 : ∀ w, (Op.stringOp .add ⟨rest.toArray⟩ ⟨s.toArray⟩).run Tryz.prog w = .ok (.string ⟨B.toArray⟩) w := fun w => by rw [← hB]; exact run_cat rest s (by omega) (by omega) w
  rw [hB] at HR
  have hd1 := hd.rest B
  obtain ⟨e0, e1, e4, e5, g1⟩ := hd1.cells
  have hb1 : Below b W (W.setCell ⟨b, 1, none⟩ (S B)) := (Below.refl b W).setCell (p := ⟨b, 1, none⟩) (Nat.le_refl _) _
  clear hB
  go_enter Tryz.func80, Tryz.ntmps80
  go_wp2_with fail
  generalize W.setCell ⟨b, 1, none⟩ (S B) = W1 at *
  go_loopw [8] (fun n' wr => ∃ (st' : Stg) (out' r' : List UInt8) (d : Bool), DecAt wr b st' out' r' d ∧ Below b W wr ∧ r'.length ≤ B.length ∧ (d = false → Hid (rdS st' out' r' = R)) ∧ (d = true → st' = .tr ∧ Hid (R = .fin out' r'))) (fun _ wr => leftOf b wr)
  case atStart => exact ⟨st, out, B, false, hd1, hb1, Nat.le_refl _, fun _ => HR, fun h => by cases h⟩
  case round =>
    obtain ⟨st', out', r', d, hda, hbw, hrl, hr0, hr1⟩ := hrel
    obtain ⟨d0, d1, d4, d5, h1⟩ := hda.cells
    have hlf := hda.left
    have hMr := hMb wr hbw
    cases d with
    | true =>
      obtain ⟨rfl, hfin⟩ := hr1 rfl
      go_wp2_with fail
      go_ret2
      unfold WrR
      rw [hfin.out]
      refine ⟨hbw, ?_, hda⟩
      simp [lB]
      omega
    | false =>
      have hrd := hr0 rfl
      have hst := dc_step b st' out' r' (by omega) wr.drew (ml_drew hMr) hda.drew
      clear hr0 hr1
      have hcf := stF_enters st'
      generalize hf : stF st' = f at *
      clear hf
      go_wp2_with fail
      go_region_with (refine hst.mono ?_; rintro e w2 hso; obtain ⟨k, ee, rfl, hb2, h4⟩ := hso.four; clear hso)
      all_goals
        have hbw2 := hbw.drew.trans hb2
        clear hst hb2
        rcases h4 with ⟨hq, rfl, hd2⟩ | ⟨hq, z0, z8, g, left, A, n, c, bx⟩ | ⟨st2, out2, j, hq, rfl, rfl, hj, hd2⟩ | ⟨j, hq, rfl, rfl, hj, hd2⟩
        · have HQ := Lib.hid (show R = .short st' out' r' from by rw [← hrd.out, rd_short hq])
          clear hq hrd HR
          go_wp2_with fail
          go_ret2
          unfold WrR
          rw [HQ.out]
          exact ⟨hbw2, rfl, hd2⟩
        · have HQ := Lib.hid (show R = .err ee from by rw [← hrd.out, rd_err hq])
          have q5 := bx.cell (j := 5) rfl
          have u5 := bx.free 5
          clear hq hrd HR
          go_wp2_with fail
          go_ret2
          unfold WrR
          rw [HQ.out]
          exact ⟨hbw2.setCell (p := ⟨b, 5, none⟩) (Nat.le_refl _) _, rfl, g, r', left, A, n, c, by simpa [decC] using bx.set 5 (.bool true)⟩
        · have HQ := Lib.hid (show rdS st2 out2 (r'.drop j) = R from by rw [← hrd.out, rd_go hq])
          have hsh := step_shrinks hq
          obtain ⟨p0, p1, p4, p5, v1⟩ := hd2.cells
          have sl := fun w => run_sliceT (P := Tryz.prog) 9 Tryz.underlying9 r' (j : Int) (by omega) (by omega) w
          rw [Int.toNat_natCast] at sl
          clear hq hrd HR
          go_wp2_with fail
          go_roundw
          case rel => exact ⟨st2, out2, r'.drop j, false, hd2.rest _, hbw2.setCell (p := ⟨b, 1, none⟩) (Nat.le_refl _) _, by omega, fun _ => HQ, fun h => (by cases h)⟩
          case measure => rw [(hd2.rest (r'.drop j)).left, hlf]; simp only [Bool.false_eq_true, if_false]; omega
        · have HQ := Lib.hid (show R = .fin out' (r'.drop j) from by rw [← hrd.out, rd_fin hq])
          obtain ⟨p0, p1, p4, p5, v1⟩ := hd2.cells
          have sl := fun w => run_sliceT (P := Tryz.prog) 9 Tryz.underlying9 r' (j : Int) (by omega) (by omega) w
          rw [Int.toNat_natCast] at sl
          clear hq hrd HR
          go_wp2_with fail
          go_roundw
          case rel => exact ⟨.tr, out', r'.drop j, true, hd2.rest _, hbw2.setCell (p := ⟨b, 1, none⟩) (Nat.le_refl _) _, by rw [List.length_drop]; omega, fun h => (by cases h), fun _ => ⟨rfl, HQ⟩⟩
          case measure => rw [(hd2.rest (r'.drop j)).left, hlf, List.length_drop]; simp only [Bool.false_eq_true, if_false, if_true]; omega
end Go.Proofs.YtfgjbflddabdcaaGreatDoor
namespace Go.Proofs.YtfgjbflddabdcaaGreatDoor
open Go.RowKit Go.Larder
set_option linter.unusedVariables false
set_option linter.unusedSimpArgs false
theorem dc_New (w : World) : Calls Tryz.prog 79 #[] w fun e w' => e = .returned (.pointer (some ⟨w.heap.size, 0, none⟩)) ∧ DecAt w' w.heap.size .hd [] [] false ∧ Below w.heap.size w w' := by
  go_enter Tryz.func79, Tryz.ntmps79
  go_wp2_with fail
  go_ret
  refine ⟨rfl, ⟨0, none, 0, ?_, OwnL.nil _ _ _, by simp, fun n h => by cases h⟩, (Below.refl _ _).alloc (Nat.le_refl _) _⟩
  exact BoxAt.new w (decC 113 [] 0 none 0 0 false false) 127
theorem dc_Done (b : Nat) (d : Bool) (W : World) (h4 : W.cell? ⟨b, 4, none⟩ = some (.bool d)) : Calls Tryz.prog 81 #[.pointer (some ⟨b, 0, none⟩)] W fun e w' => e = .returned (.bool d) ∧ W = w' := by
  go_enter Tryz.func81, Tryz.ntmps81
  go_wp2_with fail
  go_ret
  exact ⟨rfl, rfl⟩
theorem dc_BodyNo (b : Nat) (W : World) (h4 : W.cell? ⟨b, 4, none⟩ = some (.bool false)) : Calls Tryz.prog 82 #[.pointer (some ⟨b, 0, none⟩)] W fun e w' => e = .returned (S []) ∧ W = w' := by
  go_enter Tryz.func82, Tryz.ntmps82
  go_wp2_with fail
  go_ret
  exact ⟨rfl, rfl⟩
theorem dc_Body (b : Nat) (st : Stg) (out rest : List UInt8) (W : World) (h : DecAt W b st out rest true) : Calls Tryz.prog 82 #[.pointer (some ⟨b, 0, none⟩)] W fun e w' => e = .returned (S out) ∧ W = w' := by
  obtain ⟨left, A, c, bx, ho, h1, h2⟩ := h
  have c3 := bx.cell (j := 3) rfl
  have c4 := bx.cell (j := 4) rfl
  have hcv := run_bytes_str (P := Tryz.prog) 81 9 Tryz.underlying81 Tryz.underlying5 Tryz.underlying9 ho.read c
  go_enter Tryz.func82, Tryz.ntmps82
  go_wp2_with fail
  go_ret
  exact ⟨rfl, rfl⟩
set_option maxHeartbeats 4000000 in
theorem dc_Decode (s : List UInt8) (hs : s.length ≤ 1048576) (w : World) (hM : ML w) :
    Calls Tryz.prog 48 #[S s] w fun e w' => e = .returned (.tuple #[S (backE s).1, .int .i64 (backE s).2.1, .int .i64 (backE s).2.2]) ∧ Below w.heap.size w w' := by
  have hn := dc_New w
  have hwr := fun W hMW hMb hd => dc_Write w.heap.size .hd [] [] s (by simp; omega) W hMW hMb hd
  have hMb : ∀ W', Below w.heap.size w W' → ML W' := fun W' hb => hM.keep hb
  simp only [List.nil_append] at hwr
  cases hq : rdS .hd [] s with
  | short st' out' r' =>
    have hb : backE s = ([], 0, 8) := by unfold backE; rw [hq]
    rw [hq] at hwr
    rw [hb]
    simp only [WrR] at hwr ⊢
    clear hq hb
    go_enter Tryz.func48, Tryz.ntmps48
    go_wp2_with fail
    refine hn.mono ?_
    rintro e w1 ⟨rfl, hd1, hb1⟩
    have hw1 := hwr w1 (hMb _ hb1) (fun W' h => hMb _ (hb1.trans h)) hd1
    clear hwr
    go_wp2_with fail
    refine hw1.mono ?_
    rintro e w2 ⟨hb2, rfl, hd2⟩
    have hdn := dc_Done w.heap.size false w2 hd2.cells.2.2.1
    go_wp2_with fail
    refine hdn.mono ?_
    rintro e w3 ⟨rfl, rfl⟩
    go_wp2_with fail
    go_ret3
    exact ⟨rfl, hb1.trans hb2⟩
  | err n =>
    have hb : backE s = ([], 0, n) := by unfold backE; rw [hq]
    have hz : (n == 0) = false := by have := (rd_err_ne (s.length + 1) (Nat.lt_succ_self _) hq).1; simpa using this
    rw [hq] at hwr
    rw [hb]
    simp only [WrR] at hwr ⊢
    clear hq hb
    go_enter Tryz.func48, Tryz.ntmps48
    go_wp2_with fail
    refine hn.mono ?_
    rintro e w1 ⟨rfl, hd1, hb1⟩
    have hw1 := hwr w1 (hMb _ hb1) (fun W' h => hMb _ (hb1.trans h)) hd1
    clear hwr
    go_wp2_with fail
    refine hw1.mono ?_
    rintro e w2 ⟨hb2, rfl, hx⟩
    go_wp2_with fail
    go_ret3
    exact ⟨rfl, hb1.trans hb2⟩
  | fin out' r' =>
    have hb : backE s = (out', (s.length : Int) - r'.length, 0) := by unfold backE; rw [hq]
    rw [hq] at hwr
    rw [hb]
    simp only [WrR] at hwr ⊢
    clear hq hb
    go_enter Tryz.func48, Tryz.ntmps48
    go_wp2_with fail
    refine hn.mono ?_
    rintro e w1 ⟨rfl, hd1, hb1⟩
    have hw1 := hwr w1 (hMb _ hb1) (fun W' h => hMb _ (hb1.trans h)) hd1
    clear hwr
    go_wp2_with fail
    refine hw1.mono ?_
    rintro e w2 ⟨hb2, rfl, hd2⟩
    have hdn := dc_Done w.heap.size true w2 hd2.cells.2.2.1
    have hbd := dc_Body w.heap.size .tr out' r' w2 hd2
    go_wp2_with fail
    refine hdn.mono ?_
    rintro e w3 ⟨rfl, rfl⟩
    go_wp2_with fail
    refine hbd.mono ?_
    rintro e w3 ⟨rfl, rfl⟩
    go_wp2_with fail
    go_ret3
    exact ⟨rfl, hb1.trans hb2⟩
end Go.Proofs.YtfgjbflddabdcaaGreatDoor
