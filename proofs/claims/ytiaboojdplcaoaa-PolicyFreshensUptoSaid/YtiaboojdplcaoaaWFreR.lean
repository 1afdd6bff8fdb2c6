/- Walk: the reference's Freshen. -/
import Derived.Test.YtiaboojdplcaoaaWPolR
import Derived.Test.YtiaboojdplcaoaaSpecFre
namespace Go.Proofs.Ytiaboojdplcaoaa
open Go.RowKit Go.Larder
set_option linter.unusedVariables false
set_option linter.unusedSimpArgs false

set_option maxHeartbeats 2000000 in
theorem w_any1 (now : List Fld) (nm : List UInt8) (hnm : nm.length ≤ 1048576) (hsn : (now.map (fun f => f.1.length + f.2.length + 3)).sum ≤ 1048576) (A A' : Option Addr) (c : Nat) (w : World) (hr : ReadL encF w w.heap.size A now) (hr' : ReadL encS w w.heap.size A' [nm]) :
    Calls Try.prog 88 #[.slice A now.length c, .slice A' 1 1] w (fun e w' => e = .returned (.bool (!(valsL (lowL nm) now).isEmpty)) ∧ Below w.heap.size w w') := by
  obtain ⟨hln, hxn⟩ := sum_big hsn
  have hget := fun w hr => w_GetR nm hnm now (fun f hf => (hxn f hf).1) hln hsn A c w hr
  rw [getGo_all] at hget
  obtain ⟨b, off, rfl, hbb, hcell⟩ := hr'.at_S (k := 0) (x := nm) rfl
  have hcell0 : w.cell? ⟨b, off, none⟩ = some (S nm) := by simpa using hcell
  clear hcell
  generalize Lib.join (valsL (lowL nm) now) sepL = s at hget
  cases he : (!(valsL (lowL nm) now).isEmpty)
  · rw [he] at hget
    go_enter Try.func88, Try.ntmps88
    go_wp2_with fail
    go_loopw [11] (fun i' wr => (i' = .int .i64 0 ∧ wr = w) ∨ (i' = .int .i64 1 ∧ Below w.heap.size w wr)) (fun i' _ => 1 - (intOf i').toNat)
    case atStart => exact .inl ⟨rfl, rfl⟩
    case round =>
      rcases hrel with ⟨rfl, rfl⟩ | ⟨rfl, hb1⟩
      · go_wp2_with (go_at_call 20; refine (hget _ hr).mono ?_; rintro e w1 ⟨rfl, hb1⟩)
        go_roundw
        case rel => exact .inr ⟨rfl, hb1⟩
        case measure => simp [intOf]
      · go_wp2_with fail
        go_ret
        exact ⟨rfl, hb1⟩
  · rw [he] at hget
    go_enter Try.func88, Try.ntmps88
    go_wp2_with fail
    go_loopw [11] (fun i' wr => i' = .int .i64 0 ∧ wr = w) (fun i' _ => 1 - (intOf i').toNat)
    case atStart => exact ⟨rfl, rfl⟩
    case round =>
      obtain ⟨rfl, rfl⟩ := hrel
      go_wp2_with (go_at_call 20; refine (hget _ hr).mono ?_; rintro e w1 ⟨rfl, hb1⟩)
      go_ret
      exact ⟨rfl, hb1⟩

set_option maxHeartbeats 4000000 in
theorem w_FreshenR (old now : List Fld) (hso : (old.map (fun f => f.1.length + f.2.length + 3)).sum ≤ 1048576) (hsn : (now.map (fun f => f.1.length + f.2.length + 3)).sum ≤ 1048576) (A A' : Option Addr) (c c' : Nat) (w : World) (hr : ReadL encF w w.heap.size A old) (hr' : ReadL encF w w.heap.size A' now) :
    Calls Try.prog 51 #[.slice A old.length c, .slice A' now.length c'] w (fun e w' => (∃ A2 c2, e = .returned (.slice A2 (freshL old now).length c2) ∧ OwnL encF w' w.heap.size 47 A2 c2 (freshL old now)) ∧ Below w.heap.size w w') := by
  obtain ⟨hlo, hxo⟩ := sum_big hso
  obtain ⟨hln, hxn⟩ := sum_big hsn
  have hsz : (w.alloc (.cells #[S [99, 111, 110, 116, 101, 110, 116, 45, 108, 101, 110, 103, 116, 104], S [99, 111, 110, 116, 101, 110, 116, 45, 114, 97, 110, 103, 101], S [99, 111, 110, 116, 101, 110, 116, 45, 101, 110, 99, 111, 100, 105, 110, 103], S [99, 111, 110, 116, 101, 110, 116, 45, 116, 121, 112, 101]] 9)).heap.size = w.heap.size + 1 := by simp
  have hlit : ReadL encS (w.alloc (.cells #[S [99, 111, 110, 116, 101, 110, 116, 45, 108, 101, 110, 103, 116, 104], S [99, 111, 110, 116, 101, 110, 116, 45, 114, 97, 110, 103, 101], S [99, 111, 110, 116, 101, 110, 116, 45, 101, 110, 99, 111, 100, 105, 110, 103], S [99, 111, 110, 116, 101, 110, 116, 45, 116, 121, 112, 101]] 9)) (w.heap.size + 1) (some ⟨w.heap.size, 0, none⟩) below4 := ReadL.lit (E := encS) w #[S [99, 111, 110, 116, 101, 110, 116, 45, 108, 101, 110, 103, 116, 104], S [99, 111, 110, 116, 101, 110, 116, 45, 114, 97, 110, 103, 101], S [99, 111, 110, 116, 101, 110, 116, 45, 101, 110, 99, 111, 100, 105, 110, 103], S [99, 111, 110, 116, 101, 110, 116, 45, 116, 121, 112, 101]] _ below4 rfl
  have hfl : freshL old now = old.filter (keepF now) ++ dropP (hitsN below4) (stripL now) := by unfold freshL; rw [keep_eq]
  rw [hfl]
  go_enter Try.func51, Try.ntmps51
  go_wp2_with fail
  go_loopw [6, 12] (fun o i' wr => ∃ (k : Nat) (acc : List Fld) (A2 : Option Addr) (c2 : Nat), i' = .int .i64 k ∧ o = .slice A2 acc.length c2 ∧ k ≤ old.length ∧ acc.length ≤ k ∧ OwnL encF wr (w.heap.size + 1) 47 A2 c2 acc ∧ Below (w.heap.size + 1) (w.alloc (.cells #[S [99, 111, 110, 116, 101, 110, 116, 45, 108, 101, 110, 103, 116, 104], S [99, 111, 110, 116, 101, 110, 116, 45, 114, 97, 110, 103, 101], S [99, 111, 110, 116, 101, 110, 116, 45, 101, 110, 99, 111, 100, 105, 110, 103], S [99, 111, 110, 116, 101, 110, 116, 45, 116, 121, 112, 101]] 9)) wr ∧ acc ++ (old.drop k).filter (keepF now) = old.filter (keepF now)) (fun _ i' _ => old.length - (intOf i').toNat)
  case atStart => exact ⟨0, [], none, 0, rfl, rfl, by omega, by simp, OwnL.nil _ _ _, Below.refl _ _, by simp⟩
  case round =>
    obtain ⟨k, acc, A2, c2, rfl, rfl, hk, hak, hown, hbel, heq⟩ := hrel
    have hbs := hbel.size
    rw [hsz] at hbs
    have hbW : Below w.heap.size w wr := ((Below.refl _ _).alloc (Nat.le_refl _) _).trans (hbel.mono (by omega))
    have hlitr := hlit.below hbel (Nat.le_refl _)
    have hbWs := hbW.size
    by_cases hlt : k < old.length
    · obtain ⟨⟨n, y⟩, hfx, hs⟩ := drop_step hlt
      have hxl := (hxo _ (List.mem_of_getElem? hfx)).1
      obtain ⟨g, off, rfl, hgb, hc0, hc1⟩ := (hr.below hbW (Nat.le_refl _)).at_F hfx
      rw [hs, List.filter_cons] at heq
      have hkf : keepF now (n, y) = ((below4.any fun z => lowL n == z) || (valsL (lowL n) now).isEmpty) := rfl
      rw [hkf] at heq
      have hlit2 := hlitr.alloc (by omega) (.cells #[S n, S y] 47)
      clear hs hfx hkf
      cases hw : (below4.any fun z => lowL n == z)
      · have hn1 : ReadL encS ((wr.alloc (.cells #[S n, S y] 47)).alloc (.cells #[S n] 9)) ((wr.alloc (.cells #[S n, S y] 47)).alloc (.cells #[S n] 9)).heap.size (some ⟨wr.heap.size + 1, 0, none⟩) [n] := by
          have h0 : (wr.alloc (.cells #[S n, S y] 47)).heap.size = wr.heap.size + 1 := by simp
          have := (ReadL.lit (E := encS) (wr.alloc (.cells #[S n, S y] 47)) #[S n] 9 [n] rfl).more (B' := ((wr.alloc (.cells #[S n, S y] 47)).alloc (.cells #[S n] 9)).heap.size) (by simp)
          rwa [h0] at this
        have hany := w_any1 now n hxl hsn A' (some ⟨wr.heap.size + 1, 0, none⟩) c' _ ((((hr'.below hbW (Nat.le_refl _)).alloc (by omega) (.cells #[S n, S y] 47)).alloc (by simp; omega) (.cells #[S n] 9)).more (by simp; omega)) hn1
        cases hv : (valsL (lowL n) now).isEmpty
        · rw [hv] at hany
          rw [hw, hv, if_neg (by simp)] at heq
          have Heq := Lib.hid heq; clear heq
          go_wp2_with (first
            | (go_at_call 15; refine (w_LowerR n (by omega) _).mono ?_; rintro e w' ⟨rfl, rfl⟩)
            | (go_at_call 79; refine (w_HasS (lowL n) below4 (by decide) (some ⟨w.heap.size, 0, none⟩) 4 _ _ hlit2).mono ?_; rintro e w' ⟨rfl, rfl⟩)
            | (go_at_call 88; refine hany.mono ?_; rintro e w2 ⟨rfl, hb2⟩
               have hs2 := hb2.size
               simp only [World.size_alloc] at hs2))
          go_roundw
          case rel => exact ⟨k + 1, acc, A2, c2, by go_num, rfl, by omega, by omega, ((hown.alloc _).alloc _).below hb2 (Nat.le_refl _), ((hbel.alloc (by rw [← hsz] at hbs; omega) _).alloc (by simp; omega) _).trans (hb2.mono (by simp; omega)), Heq.out⟩
          case measure => simp [intOf]; omega
        · rw [hv] at hany
          rw [hw, hv, if_pos (by simp)] at heq
          have Heq := Lib.hid heq; clear heq
          go_wp2_with (first
            | (go_at_call 15; refine (w_LowerR n (by omega) _).mono ?_; rintro e w' ⟨rfl, rfl⟩)
            | (go_at_call 79; refine (w_HasS (lowL n) below4 (by decide) (some ⟨w.heap.size, 0, none⟩) 4 _ _ hlit2).mono ?_; rintro e w' ⟨rfl, rfl⟩)
            | (go_at_call 88; refine hany.mono ?_; rintro e w2 ⟨rfl, hb2⟩
               have hs2 := hb2.size
               simp only [World.size_alloc] at hs2
               have hown2 := (((hown.alloc (.cells #[S n, S y] 47)).alloc (.cells #[S n] 9)).below hb2 (Nat.le_refl _))
               have hbx2 : w2.heap[wr.heap.size]? = some (.cells #[S n, S y] 47 (0, 0)) := (hb2.block _ (by simp; omega)).trans ((Below.heap_alloc _ _ _ (by simp)).trans (heap_alloc_new wr _))
               have hx0 : w2.cell? ⟨wr.heap.size, 0, none⟩ = some (S n) := by rw [Lib.cell_of_heap hbx2]; rfl
               have hx1 : w2.cell? ⟨wr.heap.size, 1, none⟩ = some (S y) := by rw [Lib.cell_of_heap hbx2]; rfl)
            | (at_builtin; refine wpList_app encF sl_field [(n, y)] rfl _ _ rfl rfl hown2 #[S n, S y] rfl 0 rfl (by first | rfl | (simp [go_sem]; done)) (by omega) (by simp only [maxLen]; omega) (by omega) ?_; intro g' c'' w4 hown4 hg4 hb4 hbg))
          go_roundw
          case rel => exact ⟨k + 1, acc ++ [(n, y)], some ⟨g', 0, none⟩, c'', by go_num, by simp, by omega, by simp; omega, hown4, (((hbel.alloc (by rw [← hsz] at hbs; omega) _).alloc (by simp; omega) _).trans (hb2.mono (by simp; omega))).trans hb4, by rw [← Heq.out]; simp⟩
          case measure => simp [intOf]; omega
      · rw [hw, if_pos (by simp)] at heq
        have Heq := Lib.hid heq; clear heq
        go_wp2_with (first
          | (go_at_call 15; refine (w_LowerR n (by omega) _).mono ?_; rintro e w' ⟨rfl, rfl⟩)
          | (go_at_call 79; refine (w_HasS (lowL n) below4 (by decide) (some ⟨w.heap.size, 0, none⟩) 4 _ _ hlit2).mono ?_; rintro e w' ⟨rfl, rfl⟩)
          | (at_builtin; refine wpList_app encF sl_field [(n, y)] rfl _ _ rfl rfl (hown.alloc _) #[S n, S y] rfl 0 rfl (by first | rfl | (simp [go_sem]; done)) (by omega) (by simp only [maxLen]; omega) (by simp; omega) ?_; intro g' c'' w4 hown4 hg4 hb4 hbg))
        go_roundw
        case rel => exact ⟨k + 1, acc ++ [(n, y)], some ⟨g', 0, none⟩, c'', by go_num, by simp, by omega, by simp; omega, hown4, (hbel.alloc (by rw [← hsz] at hbs; omega) _).trans hb4, by rw [← Heq.out]; simp⟩
        case measure => simp [intOf]; omega
    · rw [drop_end hlt] at heq
      have hacc : acc = old.filter (keepF now) := by rw [← heq]; simp
      have hal : (old.filter (keepF now)).length ≤ old.length := List.length_filter_le _ _
      clear heq
      rw [← hacc] at hal ⊢
      have Hacc := Lib.hid hacc
      clear hacc
      go_wp2_with fail
      refine (w_StripR now hsn A' c' _ ((hr'.below hbW (Nat.le_refl _)).more hbW.size)).mono ?_
      rintro e w4 ⟨⟨A4, c4, rfl, ho4⟩, hb4⟩
      have hB4 := hbW.trans (hb4.mono hbW.size)
      have hs4 := hb4.size
      have hstl : (stripL now).length ≤ now.length := dropP_len _ _
      go_wp2_with fail
      refine (w_WithoutN below4 (by decide) (stripL now) (fun f hf => ⟨Nat.le_trans (hxn f (mem_dropP hf)).1 (by decide), Nat.le_trans (hxn f (mem_dropP hf)).2 (by decide)⟩) (by omega) A4 (some ⟨w.heap.size, 0, none⟩) c4 4 _ ho4.read ((hlitr.below hb4 (by omega)).more (by omega))).mono ?_
      rintro e w5 ⟨⟨A5, c5, rfl, ho5⟩, hb5⟩
      have hs5 := hb5.size
      have hd2 := dropP_len (hitsN below4) (stripL now)
      have hownA := (hown.below hb4 (Nat.le_refl _)).below hb5 (Nat.le_refl _)
      have hB5 := hB4.trans (hb5.mono hB4.size)
      go_wp2_with (at_builtin; refine wpList_app_any encF sl_field (dropP (hitsN below4) (stripL now)) rfl _ _ rfl rfl hownA rfl ho5.read (by omega) (by simp only [maxLen]; omega) (by omega) ?_; intro A6 c6 w6 hown6 hb6)
      go_ret
      rw [← Hacc.out]
      refine ⟨⟨A6, c6, ?_, hown6.base_le (base' := w.heap.size) (by omega)⟩, hB5.trans (hb6.mono (by omega))⟩
      rw [List.length_append]
      rfl
end Go.Proofs.Ytiaboojdplcaoaa
