/- Walk: rows: the keys. -/
import Derived.Test.YtbchkaoocobpfaaWRwM
import Derived.Test.YtbchkaoocobpfaaWRwA
import Derived.Test.YtbchkaoocobpfaaAppI
import Derived.Shelf.Abstract
namespace Go.Proofs.Ytbchkaoocobpfaa
open Go.RowKit Go.Larder Go.Shelf
attribute [local go_sem] Oper.semAt_some
set_option linter.unusedVariables false
set_option linter.unusedSimpArgs false
theorem _root_.Go.RowKit.Below.putO {B r : Nat} {a w : World} (h : Below B a w) (hr : B ≤ r) (o : Obj) : Below B a (w.putObj r o) :=
  ⟨h.os, h.tape, h.output, by simpa using h.size, fun j hj => (World.putObj_heap_other (by omega)).trans (h.block j hj)⟩
theorem sl_strR : SlT Try.prog 30 9 1 16 := SlT.mk' (z := .string ByteArray.empty) Try.underlying30 (by kernel_rfl) rfl
/-- between two rounds: the results, the loop's record -/
structure KJ (w : World) (b gc gm room : Nat) (L : List Lnk) (lp : Loop) (rest : List Lnk) (W : World) : Prop where
  book : W.heap[w.heap.size + 2]? = some (.loop lp)
  dfr : W.heap[w.heap.size + 1]? = some (.deferred (some []))
  out : ∃ done A c, L = done ++ rest ∧ BoxAt W w.heap.size 30 [.slice A (keysR (thsL done)).length c] ∧ OwnL encL W (w.heap.size + 3) 9 A c (keysR (thsL done))
  bel : Below w.heap.size w W
theorem KJ.size {w : World} {b gc gm room : Nat} {L : List Lnk} {lp : Loop} {rest : List Lnk} {W : World} (h : KJ w b gc gm room L lp rest W) : w.heap.size + 3 ≤ W.heap.size := by
  have := (Array.getElem?_eq_some_iff.1 h.book).1; omega
theorem keys_snoc (done : List Lnk) (g : Nat) (k : List UInt8) (s : Nat) : keysR (thsL (done ++ [(g, k, s)])) = keysR (thsL done) ++ [k] := by simp [keysR, thsL]
set_option maxHeartbeats 8000000 in
set_option maxRecDepth 100000 in
theorem w_RKeys (b gc gm room : Nat) (L : List Lnk) (w : World) (h : RowAt w b gc gm room L) :
    Calls Try.prog 16 #[pg b] w fun e w' => ∃ A c, e = .returned (.slice A (keysR (thsL L)).length c) ∧ OwnL encL w' w.heap.size 9 A c (keysR (thsL L)) ∧ Below w.heap.size w w' := by
  have c2 := h.box.cell (j := 2) rfl
  have hlen : (keysR (thsL L)).length ≤ 1000000 := by
    have h1 := len_used h.ps
    have h2 := h.le
    have h3 := h.rm
    have : (keysR (thsL L)).length = (thsL L).length := by simp [keysR]
    omega
  have hLl : L.length ≤ 1000000 := by
    have : (keysR (thsL L)).length = L.length := by simp [keysR, thsL]
    omega
  have hA : BoxAt (w.alloc (.cells #[.slice none 0 0] 30)) b 67 _ := h.box.alloc _
  have d2 := hA.cell (j := 2) rfl
  refine (callsIn_wide (n := 8)).1 ?_
  refine callsIn_of_wp_marks Try.func16 rfl trivial ?_ rfl
  simp only [Try.ntmps16, List.size_toArray, List.length_cons, List.length_nil, Nat.reduceAdd, Nat.reduceSub, Array.replicate_succ, Array.replicate_zero, List.push_toArray, List.append_toArray, List.nil_append, List.cons_append]
  gi_wp2_with fail
  refine range_rawB rfl (by omega) (gf := 32) (fs := #[pg gc]) (lb := #[]) ?_ trivial (enters_of Try.func32 (by kernel_rfl) rfl) (encs := fun x : List UInt8 => #[S x]) (fun x => rfl) ?_
  · rfl
  · intro rc W1 hW1 hl hD hB hround
    have hsz : (w.alloc (.cells #[.slice none 0 0] 30)).heap.size = w.heap.size + 1 := by simp
    rw [hsz] at hl hD hround ⊢
    have b2 : Below w.heap.size w (w.alloc (.cells #[.slice none 0 0] 30)) := (Below.refl w.heap.size w).alloc (Nat.le_refl _) _
    have b3 := b2.trans (hB.mono b2.size)
    have x0 := BoxAt.new w [.slice none 0 0] 30
    have y0 := x0.keep hB
    have hKJ : KJ w b gc gm room L (rc .ready none) L W1 := ⟨hl, hD, ⟨[], none, 0, rfl, y0, OwnL.nil _ _ _⟩, b3⟩
    have hR : RndAll (w.heap.size + 2) gc (fun rest W => KJ w b gc gm room L (rc .ready none) rest W) (fun _ => False) := by
      rintro ⟨g, k, s⟩ r W hj
      obtain ⟨done, A, c, hL, hbo, hown⟩ := hj.out
      have hch := (h.keep hj.bel).ch
      rw [hL] at hch
      obtain ⟨⟨p, hbx⟩, hne⟩ := hch.at_
      obtain ⟨_, _, _, _, hrt⟩ := hch.root
      refine ⟨⟨_, _, hbx⟩, hne, ⟨_, hrt⟩, ?_⟩
      refine hround k W _ hj.book ?_
      have hsz5 := hj.size
      have r2 := hbo.put (w.heap.size + 2) (.loop (rc .busy none)) (by omega)
      have r3 := hown.put (w.heap.size + 2) (.loop (rc .busy none)) (by omega)
      have hL2 : (W.putObj (w.heap.size + 2) (.loop (rc .busy none))).heap[w.heap.size + 2]? = some (.loop (rc .busy none)) := World.putObj_heap_same (by omega)
      have hsb : SameBut (fun j => j = w.heap.size + 2) W (W.putObj (w.heap.size + 2) (.loop (rc .busy none))) := (SameBut.refl W).put _ _ (fun _ => rfl)
      have hwsz : w.heap.size + 3 ≤ (W.putObj (w.heap.size + 2) (.loop (rc .busy none))).heap.size := by simpa using hsz5
      have q2 := r2.cell (j := 0) rfl
      have hbook := hj.book
      have hj2 := Lib.hid hj
      have HL := Lib.hid hL
      have hdl : (keysR (thsL done)).length ≤ 1000000 := by
        have h2 : (keysR (thsL done)).length = done.length := by simp [keysR, thsL]
        have h3 := congrArg List.length hL
        rw [List.length_append] at h3
        omega
      obtain ⟨ks, hks⟩ : ∃ ks, ks = keysR (thsL done) := ⟨_, rfl⟩
      rw [← hks] at r2 r3 q2 hdl hown
      have Hks := Lib.hid hks
      clear hround y0 x0 b2 b3 hj hl hD hB hW1 hKJ hbo hL hch hbx hrt hks
      gi_wp2_with fail
      refine ⟨hbook, ?_⟩
      gi_wp2_with (gi_at_builtin; refine wpListIn_appG (w := W.putObj (w.heap.size + 2) (.loop (rc .busy none))) encL sl_strR [k] rfl _ _ rfl rfl r3 #[S k] rfl 0 rfl (by first | rfl | (simp [go_sem]; done)) (by omega) (by simp only [maxLen]; omega) (by omega) ?_; intro g' c' w5 hown5 hgr5 hb5; have q5 := r2.kept hb5 (by omega); have c5 := q5.cell (j := 0) rfl; have f5 := q5.free 0)
      have hL5 : (w5.setCell ⟨w.heap.size, 0, none⟩ (.slice (some ⟨g', 0, none⟩) (ks.length + 1) c')).heap[w.heap.size + 1 + 1]? = some (.loop (rc .busy none)) := (heap_setCell_other _ _ _ _ (by show w.heap.size + 1 + 1 ≠ w.heap.size; omega)).trans ((hb5.block _ (by omega)).trans hL2)
      have hj := hj2.out
      have hbl2 : Below w.heap.size w ((w5.setCell ⟨w.heap.size, 0, none⟩ (.slice (some ⟨g', 0, none⟩) (ks.length + 1) c')).putObj (w.heap.size + 1 + 1) (.loop (rc .ready none))) :=
        (((hj.bel.putO (Nat.le_add_right _ 2) _).trans (hb5.mono (by omega))).setCell (p := ⟨w.heap.size, 0, none⟩) (Nat.le_refl _) _).putO (by omega) _
      have hsl : thsL (done ++ [(g, k, s)]) = thsL (done ++ [(g, k, s)]) := rfl
      have hLe : L = (done ++ [(g, k, s)]) ++ r := by rw [HL.out]; simp
      have hbx' : ∃ p, BoxAt ((w5.setCell ⟨w.heap.size, 0, none⟩ (.slice (some ⟨g', 0, none⟩) (ks.length + 1) c')).putObj (w.heap.size + 1 + 1) (.loop (rc .ready none))) g 108 [S k, .int .i64 (s : Int), p, pg (hd1 gc (bksL r))] := by
        have hch := (h.keep hbl2).ch
        rw [HL.out] at hch
        exact hch.at_.1
      obtain ⟨p2, hp2⟩ := hbx'
      refine ⟨hL5, .inl ⟨rfl, ⟨World.putObj_heap_same (Array.getElem?_eq_some_iff.1 hL5).1, ?_, ⟨done ++ [(g, k, s)], some ⟨g', 0, none⟩, c', hLe, ?_, ?_⟩, hbl2⟩, ?_⟩⟩
      · exact (World.putObj_heap_other (by omega)).trans ((heap_setCell_other _ _ _ _ (by show w.heap.size + 1 ≠ w.heap.size; omega)).trans ((hb5.block _ (by omega)).trans ((World.putObj_heap_other (by omega)).trans hj.dfr)))
      · rw [keys_snoc, ← Hks.out, List.length_append]
        exact (q5.set 0 (.slice (some ⟨g', 0, none⟩) (ks.length + 1) c')).put _ _ (by omega)
      · rw [keys_snoc, ← Hks.out]
        exact OwnL.put (hown5.keep fun a ha => heap_setCell_other _ _ _ _ (by have := (hown5.lt a ha).1; show a.block ≠ w.heap.size; omega)) _ _ (by omega)
      · exact ⟨p2, hp2⟩
    obtain ⟨_, _, _, _, hrt⟩ := (h.keep b3).ch.root
    refine (it_all (w.heap.size + 2) gc _ _ hR L W1 hrt hKJ).mono ?_
    rintro e W' ⟨hv, (hj | hj)⟩
    · refine ⟨hv, .inl ⟨hj.book, ?_⟩⟩
      have hsz5 := hj.size
      obtain ⟨hbk, hdf, ⟨done, A, c, hL, hbo, hown⟩, hbel⟩ := hj
      have r0 := hbo.put (w.heap.size + 1 + 1) (.loop (rc .exhausted none)) (by omega)
      have q0 := r0.cell (j := 0) rfl
      have hD2 : (W'.putObj (w.heap.size + 1 + 1) (.loop (rc .exhausted none))).heap[w.heap.size + 1]? = some (.deferred (some [])) := (World.putObj_heap_other (by omega)).trans hdf
      have hL' : L = done := by simpa using hL
      subst hL'
      clear hL
      clear hR x0 y0 b2 b3 hround hl hD hB hW1 hKJ hrt
      gi_wp2
      refine ⟨by simp, .inl ⟨_, _, rfl, run_takeDeferred hD2, ?_⟩⟩
      refine ⟨_, results_tmp rfl _ _ _, ?_⟩
      refine ⟨A, c, rfl, ?_, (hbel.putO (Nat.le_add_right _ 2) _).putO (Nat.le_add_right _ 1) _⟩
      exact ((OwnL.put hown _ _ (by omega)).put _ _ (by omega)).base_le (by omega)
    · cases hj
end Go.Proofs.Ytbchkaoocobpfaa
