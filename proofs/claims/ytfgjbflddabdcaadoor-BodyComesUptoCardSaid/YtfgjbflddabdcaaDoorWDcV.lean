/- Walk: a decoder's Write. -/
import Derived.Test.YtfgjbflddabdcaaDoorWDcW
import Derived.Deep.RegionWith
namespace Go.Proofs.YtfgjbflddabdcaaDoor
open Go.RowKit Go.Larder
set_option linter.unusedVariables false
set_option linter.unusedSimpArgs false
def WrR (W : World) (b : Nat) (s : List UInt8) (R : Rd) (e : Ending) (W' : World) : Prop :=
  Below b W W' ∧ match R with
    | .short st' out' r' => e = .returned (.tuple #[.int .i64 s.length, .int .i64 0]) ∧ DecAt W' b st' out' r' false
    | .err n => e = .returned (.tuple #[.int .i64 0, .int .i64 n]) ∧ ∃ f r left A k c, BoxAt W' b 67 (decC f r left A k c false true)
    | .fin out' r' => e = .returned (.tuple #[.int .i64 ((s.length : Int) - r'.length), .int .i64 0]) ∧ DecAt W' b .tr out' r' true
/-- A step's outcome, its two numbers first. -/
theorem StepOut.four {W W' : World} {b : Nat} {st : Stg} {out rest : List UInt8} {e : Ending} (h : StepOut W b st out rest e W') : ∃ k ee : Int, e = .returned (.tuple #[.int .i64 k, .int .i64 ee]) ∧ Below b W W' ∧
    ((stepS st out rest = .short ∧ ee = 8 ∧ DecAt W' b st out rest false) ∨
     (stepS st out rest = .err ee ∧ (ee == 0) = false ∧ (ee == 8) = false ∧ ∃ f left A n c, BoxAt W' b 67 (decC f rest left A n c false false)) ∨
     (∃ st2 out2, ∃ j : Nat, stepS st out rest = .go st2 out2 (rest.drop j) ∧ k = j ∧ ee = 0 ∧ j ≤ rest.length ∧ DecAt W' b st2 out2 rest false) ∨
     (∃ j : Nat, stepS st out rest = .fin (rest.drop j) ∧ k = j ∧ ee = 0 ∧ j ≤ rest.length ∧ DecAt W' b .tr out rest true)) := by
  obtain ⟨hb, hp⟩ := h
  cases hq : stepS st out rest with
  | short => rw [hq] at hp; exact ⟨0, 8, hp.1, hb, .inl ⟨rfl, rfl, hp.2⟩⟩
  | err n => rw [hq] at hp; obtain ⟨he, h0, h8, hx⟩ := hp; exact ⟨0, n, he, hb, .inr (.inl ⟨rfl, by simpa using h0, by simpa using h8, hx⟩)⟩
  | go st2 out2 r2 => rw [hq] at hp; obtain ⟨k, he, rfl, hk, hd⟩ := hp; exact ⟨k, 0, he, hb, .inr (.inr (.inl ⟨st2, out2, k, rfl, rfl, rfl, hk, hd⟩))⟩
  | fin r2 => rw [hq] at hp; obtain ⟨k, he, rfl, hk, hd⟩ := hp; exact ⟨k, 0, he, hb, .inr (.inr (.inr ⟨k, rfl, rfl, rfl, hk, hd⟩))⟩
/-- how much is left to be read -/
def leftOf (b : Nat) (w : World) : Nat := 2 * lenOf ((w.cell? ⟨b, 1, none⟩).getD undef) + (match w.cell? ⟨b, 4, none⟩ with
  | some (.bool false) => 1
  | _ => 0)
theorem DecAt.left {W : World} {b : Nat} {st : Stg} {out r : List UInt8} {d : Bool} (h : DecAt W b st out r d) : leftOf b W = 2 * r.length + (if d then 0 else 1) := by
  obtain ⟨left, A, c, bx, _⟩ := h
  have c1 := bx.cell (j := 1) rfl
  have c4 := bx.cell (j := 4) rfl
  unfold leftOf
  rw [c1, c4]
  simp only [Option.getD_some, lenOf_S]
  cases d <;> simp
theorem DecAt.lt {W : World} {b : Nat} {st : Stg} {out r : List UInt8} {d : Bool} (h : DecAt W b st out r d) : b < W.heap.size := by
  obtain ⟨left, A, c, bx, _⟩ := h; exact bx.lt
theorem DecAt.drew {W : World} {b : Nat} {st : Stg} {out r : List UInt8} {d : Bool} (h : DecAt W b st out r d) : DecAt W.drew b st out r d := by
  obtain ⟨left, A, c, bx, ho, h1, h2⟩ := h
  exact ⟨left, A, c, bx.drew, ho.drew, h1, h2⟩
theorem ml_drew {W : World} (h : ML W) : ML W.drew := h
/-- what is left is stored -/
theorem DecAt.rest {W : World} {b : Nat} {st : Stg} {out r : List UInt8} {d : Bool} (h : DecAt W b st out r d) (r' : List UInt8) : DecAt (W.setCell ⟨b, 1, none⟩ (S r')) b st out r' d := by
  obtain ⟨left, A, c, bx, ho, h1, h2⟩ := h
  exact ⟨left, A, c, by simpa [decC] using bx.set 1 (S r'), own_box ho 1 _, h1, h2⟩
theorem DecAt.cells {W : World} {b : Nat} {st : Stg} {out r : List UInt8} {d : Bool} (h : DecAt W b st out r d) : W.cell? ⟨b, 0, none⟩ = some (.func (.func (stF st)) #[] #[]) ∧ W.cell? ⟨b, 1, none⟩ = some (S r) ∧ W.cell? ⟨b, 4, none⟩ = some (.bool d) ∧ W.cell? ⟨b, 5, none⟩ = some (.bool false) ∧ W.frozen? ⟨b, 1, none⟩ = false := by
  obtain ⟨left, A, c, bx, ho, h1, h2⟩ := h
  exact ⟨bx.cell (j := 0) rfl, bx.cell (j := 1) rfl, bx.cell (j := 4) rfl, bx.cell (j := 5) rfl, bx.free 1⟩
theorem stF_enters (st : Stg) (args : Array Value) (w : World) : (callFunc (stF st) args).run Tryd.prog w = .ok (.enter (stF st) args) w := by
  cases st
  · exact enters_of Tryd.func34 (by kernel_rfl) rfl args w
  · exact enters_of Tryd.func60 (by kernel_rfl) rfl args w
  · exact enters_of Tryd.func61 (by kernel_rfl) rfl args w
set_option maxHeartbeats 8000000 in
set_option maxRecDepth 100000 in
theorem dc_Write (b : Nat) (st : Stg) (out rest s : List UInt8) (hs : rest.length + s.length ≤ 1048576) (W : World) (hM : ML W) (hMb : ∀ W', Below b W W' → ML W') (hd : DecAt W b st out rest false) :
    Calls Tryd.prog 12 #[.pointer (some ⟨b, 0, none⟩), S s] W (WrR W b s (rdS st out (rest ++ s))) := by
  obtain ⟨R, hR⟩ : ∃ R, rdS st out (rest ++ s) = R := ⟨_, rfl⟩
  rw [hR]
  have HR := Lib.hid hR
  clear hR
  obtain ⟨c0, c1, c4, c5, f1⟩ := hd.cells
  obtain ⟨B, hB⟩ : ∃ x, rest ++ s = x := ⟨_, rfl⟩
  have lB : B.length = rest.length + s.length := by rw [← hB, List.length_append]
  have a1 : ∀ w, (Op.stringOp .add ⟨rest.toArray⟩ ⟨s.toArray⟩).run Tryd.prog w = .ok (.string ⟨B.toArray⟩) w := fun w => by rw [← hB]; exact run_cat rest s (by omega) (by omega) w
  rw [hB] at HR
  have hd1 := hd.rest B
  obtain ⟨e0, e1, e4, e5, g1⟩ := hd1.cells
  have hb1 : Below b W (W.setCell ⟨b, 1, none⟩ (S B)) := (Below.refl b W).setCell (p := ⟨b, 1, none⟩) (Nat.le_refl _) _
  clear hB
  go_enter Tryd.func12, Tryd.ntmps12
  go_wp2_with fail
  generalize W.setCell ⟨b, 1, none⟩ (S B) = W1 at *
  go_loopw [8] (fun n' wr => ∃ (st' : Stg) (out' r' : List UInt8) (d : Bool), DecAt wr b st' out' r' d ∧ Below b W wr ∧ r'.length ≤ B.length ∧ (d = false → Hid (rdS st' out' r' = R)) ∧ (d = true → st' = .tr ∧ Hid (R = .fin out' r'))) (fun _ wr => leftOf b wr)
  case atStart => exact ⟨st, out, B, false, hd1, hb1, Nat.le_refl _, fun _ => HR, fun h => by cases h⟩
  case round =>
    obtain ⟨st', out', r', d, hda, hbw, hrl, hr0, hr1⟩ := hrel
    obtain ⟨d0, d1, d4, d5, h1⟩ := hda.cells
    have hlf := hda.left
    have hMr := hMb wr hbw
    cases d with
    | true =>
      obtain ⟨rfl, hfin⟩ := hr1 rfl
      go_wp2_with fail
      go_ret2
      unfold WrR
      rw [hfin.out]
      refine ⟨hbw, ?_, hda⟩
      simp [lB]
      omega
    | false =>
      have hrd := hr0 rfl
      have hst := dc_step b st' out' r' (by omega) wr.drew (ml_drew hMr) hda.drew
      clear hr0 hr1
      have hcf := stF_enters st'
      generalize hf : stF st' = f at *
      clear hf
      go_wp2_with fail
      go_region_with (refine hst.mono ?_; rintro e w2 hso; obtain ⟨k, ee, rfl, hb2, h4⟩ := hso.four; clear hso)
      all_goals
        have hbw2 := hbw.drew.trans hb2
        clear hst hb2
        rcases h4 with ⟨hq, rfl, hd2⟩ | ⟨hq, z0, z8, g, left, A, n, c, bx⟩ | ⟨st2, out2, j, hq, rfl, rfl, hj, hd2⟩ | ⟨j, hq, rfl, rfl, hj, hd2⟩
        · have HQ := Lib.hid (show R = .short st' out' r' from by rw [← hrd.out, rd_short hq])
          clear hq hrd HR
          go_wp2_with fail
          go_ret2
          unfold WrR
          rw [HQ.out]
          exact ⟨hbw2, rfl, hd2⟩
        · have HQ := Lib.hid (show R = .err ee from by rw [← hrd.out, rd_err hq])
          have q5 := bx.cell (j := 5) rfl
          have u5 := bx.free 5
          clear hq hrd HR
          go_wp2_with fail
          go_ret2
          unfold WrR
          rw [HQ.out]
          exact ⟨hbw2.setCell (p := ⟨b, 5, none⟩) (Nat.le_refl _) _, rfl, g, r', left, A, n, c, by simpa [decC] using bx.set 5 (.bool true)⟩
        · have HQ := Lib.hid (show rdS st2 out2 (r'.drop j) = R from by rw [← hrd.out, rd_go hq])
          have hsh := step_shrinks hq
          obtain ⟨p0, p1, p4, p5, v1⟩ := hd2.cells
          have sl := fun w => run_sliceT (P := Tryd.prog) 9 Tryd.underlying9 r' (j : Int) (by omega) (by omega) w
          rw [Int.toNat_natCast] at sl
          clear hq hrd HR
          go_wp2_with fail
          go_roundw
          case rel => exact ⟨st2, out2, r'.drop j, false, hd2.rest _, hbw2.setCell (p := ⟨b, 1, none⟩) (Nat.le_refl _) _, by omega, fun _ => HQ, fun h => (by cases h)⟩
          case measure => rw [(hd2.rest (r'.drop j)).left, hlf]; simp only [Bool.false_eq_true, if_false]; omega
        · have HQ := Lib.hid (show R = .fin out' (r'.drop j) from by rw [← hrd.out, rd_fin hq])
          obtain ⟨p0, p1, p4, p5, v1⟩ := hd2.cells
          have sl := fun w => run_sliceT (P := Tryd.prog) 9 Tryd.underlying9 r' (j : Int) (by omega) (by omega) w
          rw [Int.toNat_natCast] at sl
          clear hq hrd HR
          go_wp2_with fail
          go_roundw
          case rel => exact ⟨.tr, out', r'.drop j, true, hd2.rest _, hbw2.setCell (p := ⟨b, 1, none⟩) (Nat.le_refl _) _, by rw [List.length_drop]; omega, fun h => (by cases h), fun _ => ⟨rfl, HQ⟩⟩
          case measure => rw [(hd2.rest (r'.drop j)).left, hlf, List.length_drop]; simp only [Bool.false_eq_true, if_false, if_true]; omega
end Go.Proofs.YtfgjbflddabdcaaDoor
