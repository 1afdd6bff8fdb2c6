/- Walks: body.New, Done, Body, Decode. -/
import Derived.Test.YtfgjbflddabdcaaDoorWDcV
namespace Go.Proofs.YtfgjbflddabdcaaDoor
open Go.RowKit Go.Larder
set_option linter.unusedVariables false
set_option linter.unusedSimpArgs false
theorem dc_New (w : World) : Calls Tryd.prog 11 #[] w fun e w' => e = .returned (.pointer (some ⟨w.heap.size, 0, none⟩)) ∧ DecAt w' w.heap.size .hd [] [] false ∧ Below w.heap.size w w' := by
  go_enter Tryd.func11, Tryd.ntmps11
  go_wp2_with fail
  go_ret
  refine ⟨rfl, ⟨0, none, 0, ?_, OwnL.nil _ _ _, by simp, fun n h => by cases h⟩, (Below.refl _ _).alloc (Nat.le_refl _) _⟩
  exact BoxAt.new w (decC 34 [] 0 none 0 0 false false) 67
theorem dc_Done (b : Nat) (d : Bool) (W : World) (h4 : W.cell? ⟨b, 4, none⟩ = some (.bool d)) : Calls Tryd.prog 14 #[.pointer (some ⟨b, 0, none⟩)] W fun e w' => e = .returned (.bool d) ∧ W = w' := by
  go_enter Tryd.func14, Tryd.ntmps14
  go_wp2_with fail
  go_ret
  exact ⟨rfl, rfl⟩
theorem dc_BodyNo (b : Nat) (W : World) (h4 : W.cell? ⟨b, 4, none⟩ = some (.bool false)) : Calls Tryd.prog 15 #[.pointer (some ⟨b, 0, none⟩)] W fun e w' => e = .returned (S []) ∧ W = w' := by
  go_enter Tryd.func15, Tryd.ntmps15
  go_wp2_with fail
  go_ret
  exact ⟨rfl, rfl⟩
theorem dc_Body (b : Nat) (st : Stg) (out rest : List UInt8) (W : World) (h : DecAt W b st out rest true) : Calls Tryd.prog 15 #[.pointer (some ⟨b, 0, none⟩)] W fun e w' => e = .returned (S out) ∧ W = w' := by
  obtain ⟨left, A, c, bx, ho, h1, h2⟩ := h
  have c3 := bx.cell (j := 3) rfl
  have c4 := bx.cell (j := 4) rfl
  have hcv := run_bytes_str (P := Tryd.prog) 57 9 Tryd.underlying57 Tryd.underlying5 Tryd.underlying9 ho.read c
  go_enter Tryd.func15, Tryd.ntmps15
  go_wp2_with fail
  go_ret
  exact ⟨rfl, rfl⟩
set_option maxHeartbeats 4000000 in
theorem dc_Decode (s : List UInt8) (hs : s.length ≤ 1048576) (w : World) (hM : ML w) :
    Calls Tryd.prog 16 #[S s] w fun e w' => e = .returned (.tuple #[S (backE s).1, .int .i64 (backE s).2.1, .int .i64 (backE s).2.2]) ∧ Below w.heap.size w w' := by
  have hn := dc_New w
  have hwr := fun W hMW hMb hd => dc_Write w.heap.size .hd [] [] s (by simp; omega) W hMW hMb hd
  have hMb : ∀ W', Below w.heap.size w W' → ML W' := fun W' hb => hM.keep hb
  simp only [List.nil_append] at hwr
  cases hq : rdS .hd [] s with
  | short st' out' r' =>
    have hb : backE s = ([], 0, 8) := by unfold backE; rw [hq]
    rw [hq] at hwr
    rw [hb]
    simp only [WrR] at hwr ⊢
    clear hq hb
    go_enter Tryd.func16, Tryd.ntmps16
    go_wp2_with fail
    refine hn.mono ?_
    rintro e w1 ⟨rfl, hd1, hb1⟩
    have hw1 := hwr w1 (hMb _ hb1) (fun W' h => hMb _ (hb1.trans h)) hd1
    clear hwr
    go_wp2_with fail
    refine hw1.mono ?_
    rintro e w2 ⟨hb2, rfl, hd2⟩
    have hdn := dc_Done w.heap.size false w2 hd2.cells.2.2.1
    go_wp2_with fail
    refine hdn.mono ?_
    rintro e w3 ⟨rfl, rfl⟩
    go_wp2_with fail
    go_ret3
    exact ⟨rfl, hb1.trans hb2⟩
  | err n =>
    have hb : backE s = ([], 0, n) := by unfold backE; rw [hq]
    have hz : (n == 0) = false := by have := (rd_err_ne (s.length + 1) (Nat.lt_succ_self _) hq).1; simpa using this
    rw [hq] at hwr
    rw [hb]
    simp only [WrR] at hwr ⊢
    clear hq hb
    go_enter Tryd.func16, Tryd.ntmps16
    go_wp2_with fail
    refine hn.mono ?_
    rintro e w1 ⟨rfl, hd1, hb1⟩
    have hw1 := hwr w1 (hMb _ hb1) (fun W' h => hMb _ (hb1.trans h)) hd1
    clear hwr
    go_wp2_with fail
    refine hw1.mono ?_
    rintro e w2 ⟨hb2, rfl, hx⟩
    go_wp2_with fail
    go_ret3
    exact ⟨rfl, hb1.trans hb2⟩
  | fin out' r' =>
    have hb : backE s = (out', (s.length : Int) - r'.length, 0) := by unfold backE; rw [hq]
    rw [hq] at hwr
    rw [hb]
    simp only [WrR] at hwr ⊢
    clear hq hb
    go_enter Tryd.func16, Tryd.ntmps16
    go_wp2_with fail
    refine hn.mono ?_
    rintro e w1 ⟨rfl, hd1, hb1⟩
    have hw1 := hwr w1 (hMb _ hb1) (fun W' h => hMb _ (hb1.trans h)) hd1
    clear hwr
    go_wp2_with fail
    refine hw1.mono ?_
    rintro e w2 ⟨hb2, rfl, hd2⟩
    have hdn := dc_Done w.heap.size true w2 hd2.cells.2.2.1
    have hbd := dc_Body w.heap.size .tr out' r' w2 hd2
    go_wp2_with fail
    refine hdn.mono ?_
    rintro e w3 ⟨rfl, rfl⟩
    go_wp2_with fail
    refine hbd.mono ?_
    rintro e w3 ⟨rfl, rfl⟩
    go_wp2_with fail
    go_ret3
    exact ⟨rfl, hb1.trans hb2⟩
end Go.Proofs.YtfgjbflddabdcaaDoor
