/- Walks: chunk.New, (*chunk.Cutter).End, chunk.Cut. -/
import Derived.Test.YtbchkaoocobpfaaDoorWChx
import Derived.Test.YtbchkaoocobpfaaDoorSpecs
namespace Go.Proofs.YtbchkaoocobpfaaDoor
open Go.RowKit Go.Larder
set_option linter.unusedVariables false
set_option linter.unusedSimpArgs false
theorem w_CNew (w : World) : Calls Tryd.prog 57 #[] w fun e w' => e = .returned (.pointer (some ⟨w.heap.size, 0, none⟩)) ∧ CutB w' w.heap.size none 0 [] ∧ Below w.heap.size w w' ∧ w.heap.size < w'.heap.size := by
  go_enter Tryd.func57, Tryd.ntmps57
  go_wp2_with fail
  go_ret
  exact ⟨rfl, ⟨none, 0, BoxAt.new w [.int .u32 0, .slice none 0 0] 135, OwnL.nil _ _ _, rfl⟩, (Below.refl _ _).alloc (Nat.le_refl _) _, by simp⟩
set_option maxHeartbeats 2000000 in
set_option maxRecDepth 100000 in
theorem w_CEnd (g : Nat) (X : Option Nat) (sum : Nat) (rest : List UInt8) (w : World) (hc : CutB w g X sum rest) :
    Calls Tryd.prog 59 #[.pointer (some ⟨g, 0, none⟩)] w fun e w' => ∃ A c, e = .returned (.slice A (tailP rest).length c) ∧ OwnL encS w' w.heap.size 9 A c (tailP rest) ∧ CutB w' g none 0 [] ∧ SameBut (fun j => j = g) w w' := by
  obtain ⟨A0, c0, bx, own, hX⟩ := hc.ex
  have q0 := bx.cell (j := 0) rfl
  have q1 := bx.cell (j := 1) rfl
  have f0 := bx.free 0
  have f1 := bx.free 1
  have hlt := bx.lt
  have hcv : (convert 60 9 (.slice A0 rest.length c0)).run Tryd.prog w = .ok (S rest) w := run_bytes_str (P := Tryd.prog) 60 9 Tryd.underlying60 Tryd.underlying5 Tryd.underlying9 own.read c0
  have hs2 : SameBut (fun j => j = g) w ((w.setCell ⟨g, 0, none⟩ (.int .u32 0)).setCell ⟨g, 1, none⟩ (.slice none 0 0)) := ((SameBut.refl (B := fun j => j = g) w).setCell ⟨g, 0, none⟩ _ (fun _ => rfl)).setCell ⟨g, 1, none⟩ _ (fun _ => rfl)
  have b2 : BoxAt ((w.setCell ⟨g, 0, none⟩ (.int .u32 0)).setCell ⟨g, 1, none⟩ (.slice none 0 0)) g 135 [.int .u32 0, .slice none 0 0] := (bx.set 0 _).set 1 _
  have hsz : ((w.setCell ⟨g, 0, none⟩ (.int .u32 0)).setCell ⟨g, 1, none⟩ (.slice none 0 0)).heap.size = w.heap.size := by simp
  have Hs2 := Lib.hid hs2
  have Hb2 := Lib.hid b2
  have Hsz := Lib.hid hsz
  clear hs2 b2 hsz hc hX own bx
  rcases nil_or_snoc rest with rfl | ⟨m, b, rfl⟩
  · simp only [List.length_append, List.length_cons, List.length_nil, Nat.zero_add] at hcv
    go_enter Tryd.func59, Tryd.ntmps59
    go_wp2_with fail
    go_ret
    exact ⟨none, 0, by simp [tailP], OwnL.nil _ _ _, ⟨none, 0, Hb2.out, OwnL.nil _ _ _, rfl⟩, Hs2.out⟩
  · simp only [List.length_append, List.length_cons, List.length_nil, Nat.zero_add] at hcv
    go_enter Tryd.func59, Tryd.ntmps59
    go_wp2_with fail
    go_ret
    refine ⟨some ⟨w.heap.size, 0, none⟩, 1, by simp [tailP], ?_, ⟨none, 0, Hb2.out.alloc _, OwnL.nil _ _ _, rfl⟩, Hs2.out.alloc _⟩
    have := own_lit (E := encS) ((w.setCell ⟨g, 0, none⟩ (.int .u32 0)).setCell ⟨g, 1, none⟩ (.slice none 0 0)) w.heap.size 9 #[S (m ++ [b])] [m ++ [b]] rfl (by rw [Hsz.out]; exact Nat.le_refl _) (by simp [maxLen])
    rw [Hsz.out] at this
    simpa [tailP] using this
set_option maxHeartbeats 2000000 in
theorem w_CCut (s : List UInt8) (hs : s.length ≤ 140737488351232) (w : World) : Calls Tryd.prog 40 #[S s] w fun e w' => ∃ A c, e = .returned (.slice A (cutC s).length c) ∧ OwnL encS w' w.heap.size 9 A c (cutC s) ∧ Below w.heap.size w w' := by
  have hn := w_CNew w
  have hcu : cutC s = (ckAll (0, [], []) s).2.1 ++ tailP (ckAll (0, [], []) s).2.2 := rfl
  rw [hcu]
  have hw0 := fun w1 hc1 => w_CWrite w.heap.size none 0 [] s hs (by omega) (by simp) w1 hc1
  have hol := ck_len16 (0, [], []) s
  clear hcu
  generalize ckAll (0, [], []) s = st at *
  obtain ⟨sm, o, r⟩ := st
  simp only at *
  have htl : (tailP r).length ≤ 1 := by unfold tailP; split <;> simp
  go_enter Tryd.func40, Tryd.ntmps40
  go_wp2_with (go_at_call 57; refine hn.mono ?_; rintro e w1 ⟨rfl, hc1, hb1, hlt1⟩)
  have hw := hw0 w1 hc1
  go_wp2_with fail
  refine hw.mono ?_
  rintro e w2 ⟨A2, c2, Y, rfl, hown2, hc2, hY, hs2⟩
  have he := w_CEnd w.heap.size Y sm r w2 hc2
  go_wp2_with fail
  refine he.mono ?_
  rintro e w3 ⟨A3, c3, rfl, hown3, hc3, hs3⟩
  have hlt : w1.heap.size ≤ w2.heap.size := hs2.size
  have hlt3 : w2.heap.size ≤ w3.heap.size := hs3.size
  have ho2 : OwnL encS w3 w1.heap.size 9 A2 c2 o := hs3.own hown2 (fun a ha h => by have := (hown2.lt a ha).1; omega)
  have hB : Below w.heap.size w w3 := hb1.trans ((hs2.toBelow (by omega) (by rintro j hj (h | h) <;> first | omega | cases h)).trans (hs3.toBelow (by omega) (by rintro j hj h; omega)))
  go_wp2_with (at_builtin; refine wpList_app_any encS sl_strK (tailP r) rfl _ _ rfl rfl ho2 rfl hown3.read (by simp at hol; omega) (by simp only [maxLen]; simp at hol; omega) (by omega) ?_; intro A4 c4 w4 hown4 hb4)
  go_ret
  exact ⟨A4, c4, by simp, hown4.base_le (by omega), hB.trans (hb4.mono (by omega))⟩
end Go.Proofs.YtbchkaoocobpfaaDoor
