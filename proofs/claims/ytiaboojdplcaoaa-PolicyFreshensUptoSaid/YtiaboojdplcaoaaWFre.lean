/- Walk: the program's Freshen. -/
import Derived.Test.YtiaboojdplcaoaaWPol
import Derived.Test.YtiaboojdplcaoaaSpecFre
namespace Go.Proofs.Ytiaboojdplcaoaa
open Go.RowKit Go.Larder
set_option linter.unusedVariables false
set_option linter.unusedSimpArgs false

set_option maxHeartbeats 2000000 in
theorem w_Freshen (old now : List Fld) (hso : (old.map (fun f => f.1.length + f.2.length + 3)).sum ≤ 1048576) (hsn : (now.map (fun f => f.1.length + f.2.length + 3)).sum ≤ 1048576) (A A' : Option Addr) (c c' : Nat) (w : World) (hr : ReadL encF w w.heap.size A old) (hr' : ReadL encF w w.heap.size A' now) :
    Calls Try.prog 50 #[.slice A old.length c, .slice A' now.length c'] w (fun e w' => (∃ A2 c2, e = .returned (.slice A2 (freshL old now).length c2) ∧ OwnL encF w' w.heap.size 47 A2 c2 (freshL old now)) ∧ Below w.heap.size w w') := by
  obtain ⟨hlo, hxo⟩ := sum_big hso
  obtain ⟨hln, hxn⟩ := sum_big hsn
  have hnl := namesOf_len now
  have hsz : (w.alloc (.cells #[S [99, 111, 110, 116, 101, 110, 116, 45, 108, 101, 110, 103, 116, 104], S [99, 111, 110, 116, 101, 110, 116, 45, 114, 97, 110, 103, 101], S [99, 111, 110, 116, 101, 110, 116, 45, 101, 110, 99, 111, 100, 105, 110, 103], S [99, 111, 110, 116, 101, 110, 116, 45, 116, 121, 112, 101]] 9)).heap.size = w.heap.size + 1 := by simp
  have hlit : ReadL encS (w.alloc (.cells #[S [99, 111, 110, 116, 101, 110, 116, 45, 108, 101, 110, 103, 116, 104], S [99, 111, 110, 116, 101, 110, 116, 45, 114, 97, 110, 103, 101], S [99, 111, 110, 116, 101, 110, 116, 45, 101, 110, 99, 111, 100, 105, 110, 103], S [99, 111, 110, 116, 101, 110, 116, 45, 116, 121, 112, 101]] 9)) (w.heap.size + 1) (some ⟨w.heap.size, 0, none⟩) below4 := ReadL.lit (E := encS) w #[S [99, 111, 110, 116, 101, 110, 116, 45, 108, 101, 110, 103, 116, 104], S [99, 111, 110, 116, 101, 110, 116, 45, 114, 97, 110, 103, 101], S [99, 111, 110, 116, 101, 110, 116, 45, 101, 110, 99, 111, 100, 105, 110, 103], S [99, 111, 110, 116, 101, 110, 116, 45, 116, 121, 112, 101]] _ below4 rfl
  go_enter Try.func50, Try.ntmps50
  go_wp2_with fail
  go_loopw [6, 13] (fun o i' wr => ∃ (k : Nat) (A2 : Option Addr) (c2 : Nat), i' = .int .i64 k ∧ o = .slice A2 (namesOf (now.take k)).length c2 ∧ k ≤ now.length ∧ OwnL encS wr (w.heap.size + 1) 9 A2 c2 (namesOf (now.take k)) ∧ Below (w.heap.size + 1) (w.alloc (.cells #[S [99, 111, 110, 116, 101, 110, 116, 45, 108, 101, 110, 103, 116, 104], S [99, 111, 110, 116, 101, 110, 116, 45, 114, 97, 110, 103, 101], S [99, 111, 110, 116, 101, 110, 116, 45, 101, 110, 99, 111, 100, 105, 110, 103], S [99, 111, 110, 116, 101, 110, 116, 45, 116, 121, 112, 101]] 9)) wr) (fun _ i' _ => now.length - (intOf i').toNat)
  case atStart => exact ⟨0, none, 0, rfl, rfl, by omega, OwnL.nil _ _ _, Below.refl _ _⟩
  case round =>
    obtain ⟨k, A2, c2, rfl, rfl, hk, hown, hbel⟩ := hrel
    have hbs := hbel.size
    rw [hsz] at hbs
    have hbW : Below w.heap.size w wr := ((Below.refl _ _).alloc (Nat.le_refl _) _).trans (hbel.mono (by omega))
    have hlitr := hlit.below hbel (Nat.le_refl _)
    by_cases hlt : k < now.length
    · obtain ⟨⟨n, y⟩, hfx, _⟩ := drop_step hlt
      have hxl := (hxn _ (List.mem_of_getElem? hfx)).1
      obtain ⟨g, off, rfl, hgb, hc0, hc1⟩ := (hr'.below hbW (Nat.le_refl _)).at_F hfx
      have hsnc := namesOf_snoc hfx
      simp only at hsnc
      have hnk := namesOf_len (now.take k)
      have htl : (now.take k).length = k := by rw [List.length_take]; omega
      have hgw : g < wr.heap.size := by have := hbW.size; omega
      cases hw : (below4.any fun z => lowL n == z)
      · rw [show inBelow (lowL n) = false from hw, if_neg (by simp)] at hsnc
        have Hsn := Lib.hid hsnc; clear hsnc hfx
        go_wp2_with (first
          | (go_at_call 14; refine (w_Lower n (by omega) _).mono ?_; rintro e w2 ⟨rfl, hb2⟩
             have hs2 := hb2.size
             rw [World.size_alloc] at hs2
             have hown2 := (hown.alloc (.cells #[S n, S y] 47)).below hb2 (Nat.le_refl _)
             have hlit2 := (hlitr.alloc (by omega) (.cells #[S n, S y] 47)).below hb2 (by simp; omega)
             have hb20 := (hbel.alloc (by rw [← hsz] at hbs; omega) (.cells #[S n, S y] 47)).trans (hb2.mono (by simp; omega)))
          | (go_at_call 78; refine (w_slContains (lowL n) below4 (by decide) (some ⟨w.heap.size, 0, none⟩) 4 _ _ hlit2).mono ?_; rintro e w' ⟨rfl, rfl⟩)
          | (at_builtin; refine wpList_app encS sl_strG [lowL n] rfl _ _ rfl rfl hown2 #[S (lowL n)] rfl 0 rfl (by first | rfl | (simp [go_sem]; done)) (by omega) (by simp only [maxLen]; omega) (by omega) ?_; intro g' c'' w4 hown4 hg4 hb4 hbg))
        go_roundw
        case rel => exact ⟨k + 1, some ⟨g', 0, none⟩, c'', by go_num, by rw [Hsn.out]; simp, by omega, by rw [Hsn.out]; exact hown4, hb20.trans hb4⟩
        case measure => simp [intOf]; omega
      · rw [show inBelow (lowL n) = true from hw, if_pos rfl, List.append_nil] at hsnc
        have Hsn := Lib.hid hsnc; clear hsnc hfx
        go_wp2_with (first
          | (go_at_call 14; refine (w_Lower n (by omega) _).mono ?_; rintro e w2 ⟨rfl, hb2⟩
             have hs2 := hb2.size
             rw [World.size_alloc] at hs2
             have hown2 := (hown.alloc (.cells #[S n, S y] 47)).below hb2 (Nat.le_refl _)
             have hlit2 := (hlitr.alloc (by omega) (.cells #[S n, S y] 47)).below hb2 (by simp; omega)
             have hb20 := (hbel.alloc (by rw [← hsz] at hbs; omega) (.cells #[S n, S y] 47)).trans (hb2.mono (by simp; omega)))
          | (go_at_call 78; refine (w_slContains (lowL n) below4 (by decide) (some ⟨w.heap.size, 0, none⟩) 4 _ _ hlit2).mono ?_; rintro e w' ⟨rfl, rfl⟩))
        go_roundw
        case rel => exact ⟨k + 1, A2, c2, by go_num, by rw [Hsn.out], by omega, by rw [Hsn.out]; exact hown2, hb20⟩
        case measure => simp [intOf]; omega
    · obtain rfl : k = now.length := by omega
      rw [List.take_length] at hown ⊢
      have hbWs := hbW.size
      go_wp2_with fail
      refine (w_without (namesOf now) (by omega) old (fun f hf => ⟨Nat.le_trans (hxo f hf).1 (by decide), Nat.le_trans (hxo f hf).2 (by decide)⟩) (by omega) A A2 c c2 _ ((hr.below hbW (Nat.le_refl _)).more hbWs) hown.read).mono ?_
      rintro e w3 ⟨⟨A3, c3, rfl, ho3⟩, hb3⟩
      have hB3 := hbW.trans (hb3.mono hbWs)
      go_wp2_with fail
      refine (w_Strip now hsn A' c' _ ((hr'.below hB3 (Nat.le_refl _)).more hB3.size)).mono ?_
      rintro e w4 ⟨⟨A4, c4, rfl, ho4⟩, hb4⟩
      have hB4 := hB3.trans (hb4.mono hB3.size)
      have hs3 := hb3.size
      have hs4 := hb4.size
      have hstl : (stripL now).length ≤ now.length := dropP_len _ _
      go_wp2_with fail
      refine (w_without below4 (by decide) (stripL now) (fun f hf => ⟨Nat.le_trans (hxn f (mem_dropP hf)).1 (by decide), Nat.le_trans (hxn f (mem_dropP hf)).2 (by decide)⟩) (by omega) A4 (some ⟨w.heap.size, 0, none⟩) c4 4 _ ho4.read (((hlitr.below hb3 (by omega)).below hb4 (by omega)).more (by omega))).mono ?_
      rintro e w5 ⟨⟨A5, c5, rfl, ho5⟩, hb5⟩
      have hs5 := hb5.size
      have hd1 := dropP_len (hitsN (namesOf now)) old
      have hd2 := dropP_len (hitsN below4) (stripL now)
      have hownA := (ho3.below hb4 (Nat.le_refl _)).below hb5 (Nat.le_refl _)
      have hB5 := hB4.trans (hb5.mono hB4.size)
      go_wp2_with (at_builtin; refine wpList_app_any encF sl_field (dropP (hitsN below4) (stripL now)) rfl _ _ rfl rfl hownA rfl ho5.read (by omega) (by simp only [maxLen]; omega) (by omega) ?_; intro A6 c6 w6 hown6 hb6)
      go_ret
      refine ⟨⟨A6, c6, ?_, hown6.base_le hbWs⟩, hB5.trans (hb6.mono hbWs)⟩
      unfold freshL
      rw [List.length_append]
      rfl
end Go.Proofs.Ytiaboojdplcaoaa
