/- Walk: (*chunk.Cutter).Write. -/
import Derived.Test.YtbchkaoocobpfaaDoorWChw
namespace Go.Proofs.YtbchkaoocobpfaaDoor
open Go.RowKit Go.Larder Go.Shelf
attribute [local go_sem] Oper.semAt_some
set_option linter.unusedVariables false
set_option linter.unusedSimpArgs false
theorem w_pieces (g : Nat) (s : List UInt8) (w : World) : Calls Tryd.prog 70 #[.pointer (some ⟨g, 0, none⟩), S s] w fun e w' => e = .returned (.func (.func 75) #[] #[.pointer (some ⟨w.heap.size + 1, 0, none⟩), .pointer (some ⟨w.heap.size, 0, none⟩)]) ∧
    w' = (w.alloc (.cells #[.pointer (some ⟨g, 0, none⟩)] 117)).alloc (.cells #[S s] 9) := by
  go_enter Tryd.func70, Tryd.ntmps70
  go_wp2_with fail
  go_ret
  exact ⟨rfl, rfl⟩
set_option maxHeartbeats 8000000 in
set_option maxRecDepth 100000 in
theorem w_CWrite (g : Nat) (X : Option Nat) (sum : Nat) (rest s : List UInt8) (hs : s.length ≤ 140737488351232) (hsum : sum < 4294967296) (hrest : rest.length < 128) (w : World) (hc : CutB w g X sum rest) :
    Calls Tryd.prog 58 #[.pointer (some ⟨g, 0, none⟩), S s] w fun e w' => ∃ A c Y, e = .returned (.slice A (ckAll (sum, [], rest) s).2.1.length c) ∧ OwnL encS w' w.heap.size 9 A c (ckAll (sum, [], rest) s).2.1 ∧
      CutB w' g Y (ckAll (sum, [], rest) s).1 (ckAll (sum, [], rest) s).2.2 ∧ (Y = X ∨ ∃ b, Y = some b ∧ w.heap.size ≤ b) ∧ SameBut (fun j => j = g ∨ X = some j) w w' := by
  have hps := fun W => w_pieces g s W
  obtain ⟨A0, c0, bx0, own0, hX0⟩ := hc.ex
  have hg : g < w.heap.size := bx0.lt
  have hX : ∀ b, X = some b → b < w.heap.size := by
    rintro b rfl
    cases A0 with
    | none => cases hX0
    | some a =>
      have h : a.block = b := by simpa [blkOf] using hX0
      have := (own0.lt a rfl).2
      omega
  refine (callsIn_wide (n := 8)).1 ?_
  refine callsIn_of_wp_marks Tryd.func58 rfl trivial ?_ rfl
  simp only [Tryd.ntmps58, List.size_toArray, List.length_cons, List.length_nil, Nat.reduceAdd, Nat.reduceSub, Array.replicate_succ, Array.replicate_zero, List.push_toArray, List.append_toArray, List.nil_append, List.cons_append]
  gi_wp2_with (refine ⟨trivial, ?_⟩; gi_at_call 70; refine (callsIn_wide.2 (hps _)).mono ?_; rintro e w' ⟨rfl, rfl⟩)
  refine range_raw rfl (by omega) (gf := 75) (lb := #[.pointer (some ⟨w.heap.size + 1 + 1, 0, none⟩), .pointer (some ⟨w.heap.size + 1, 0, none⟩)]) ?_ trivial (enters_of Tryd.func75 (by kernel_rfl) rfl) (encs := fun x : List UInt8 => #[S x]) (fun x => rfl) ?_
  · rfl
  · intro rc W1 hW1 hl hD hB hround
    have hsz : ((((w.alloc (.cells #[.slice none 0 0] 22)).alloc (.cells #[.pointer (some ⟨g, 0, none⟩)] 117)).alloc (.cells #[S s] 9))).heap.size = w.heap.size + 3 := by simp
    rw [hsz] at hl hD hround ⊢
    have b2 : Below w.heap.size w (((w.alloc (.cells #[.slice none 0 0] 22)).alloc (.cells #[.pointer (some ⟨g, 0, none⟩)] 117)).alloc (.cells #[S s] 9)) := (((Below.refl w.heap.size w).alloc (Nat.le_refl _) _).alloc (by simp) _).alloc (by simp; omega) _
    have b3 := b2.trans (hB.mono b2.size)
    have x0 := BoxAt.new w [.slice none 0 0] 22
    have x1 := BoxAt.new (w.alloc (.cells #[.slice none 0 0] 22)) [.pointer (some ⟨g, 0, none⟩)] 117
    have x2 := BoxAt.new ((w.alloc (.cells #[.slice none 0 0] 22)).alloc (.cells #[.pointer (some ⟨g, 0, none⟩)] 117)) [S s] 9
    have y0 := ((x0.alloc (.cells #[.pointer (some ⟨g, 0, none⟩)] 117)).alloc (.cells #[S s] 9)).keep hB
    have y1 := (x1.alloc (.cells #[S s] 9)).keep hB
    have y2 := x2.keep hB
    simp only [World.size_alloc] at y1 y2
    have hc1 : CutB W1 g X sum rest := ⟨A0, c0, bx0.keep b3, own0.keep (fun a ha => b3.block a.block (own0.lt a ha).2), hX0⟩
    have hCJ : CJ w g X (rc .ready none) s (sum, [], rest) W1 := ⟨hl, hD, ⟨none, 0, y0, OwnL.nil _ _ _⟩, y1, y2, ⟨X, hc1, .inl rfl⟩, ⟨b3.os, b3.tape, b3.output, b3.size, fun j hj _ => b3.block j hj⟩⟩
    have hR : CRnd w g X rc s := by
      intro p st W hol hj
      refine hround p W _ hj.book ?_
      obtain ⟨A, c, hbo, hown⟩ := hj.bout
      have hsz5 := hj.size
      have r2 := hbo.put (w.heap.size + 4) (.loop (rc .busy none)) (by omega)
      have r3 := hown.put (w.heap.size + 4) (.loop (rc .busy none)) (by omega)
      have hL2 : (W.putObj (w.heap.size + 4) (.loop (rc .busy none))).heap[w.heap.size + 4]? = some (.loop (rc .busy none)) := World.putObj_heap_same (by omega)
      have hsb : SameBut (fun j => j = w.heap.size + 4) W (W.putObj (w.heap.size + 4) (.loop (rc .busy none))) := (SameBut.refl W).put _ _ (fun _ => rfl)
      have hwsz : w.heap.size + 5 ≤ (W.putObj (w.heap.size + 4) (.loop (rc .busy none))).heap.size := by simpa using hsz5
      have hbook := hj.book
      have q2 := r2.cell (j := 0) rfl
      have hbook := hj.book
      have hown5q := hown
      have hj2 := Lib.hid hj
      clear hround y0 y1 y2 x0 x1 x2 b2 b3 hj hl hD hB hW1 hCJ hc1 hbo
      gi_wp2_with fail
      refine ⟨hbook, ?_⟩
      gi_wp2_with (gi_at_builtin; refine wpListIn_appG (w := W.putObj (w.heap.size + 4) (.loop (rc .busy none))) encS sl_strK [p] rfl _ _ rfl rfl r3 #[S p] rfl 0 rfl (by first | rfl | (simp [go_sem]; done)) (by omega) (by simp only [maxLen]; omega) (by omega) ?_; intro g' c' w5 hown5 hgr5 hb5; have q5 := r2.kept hb5 (by omega); have c5 := q5.cell (j := 0) rfl; have f5 := q5.free 0)
      have hL5 : (w5.setCell ⟨w.heap.size, 0, none⟩ (.slice (some ⟨g', 0, none⟩) (st.2.1.length + 1) c')).heap[w.heap.size + 3 + 1]? = some (.loop (rc .busy none)) := (heap_setCell_other _ _ _ _ (by show w.heap.size + 3 + 1 ≠ w.heap.size; omega)).trans ((hb5.block _ (by omega)).trans hL2)
      refine ⟨hL5, ⟨rfl, ?_⟩⟩
      obtain ⟨hbk, hdf, _, hbc, hbs, ⟨Y, hcb, hYX⟩, hsm⟩ := hj2.out
      have hso : SameBut (fun j => j = w.heap.size + 4 ∨ j = w.heap.size ∨ blkOf A = some j) W ((w5.setCell ⟨w.heap.size, 0, none⟩ (.slice (some ⟨g', 0, none⟩) (st.2.1.length + 1) c')).putObj (w.heap.size + 3 + 1) (.loop (rc .ready none))) :=
        ((SameBut.grown (hsb.mono fun j _ h => .inl h) hgr5 (fun j _ h => .inr (.inr h))).setCell ⟨w.heap.size, 0, none⟩ _ (fun _ => .inr (.inl rfl))).put _ _ (fun _ => .inl (by omega))
      have hAlt : ∀ j, blkOf A = some j → w.heap.size + 5 ≤ j := by
        intro j h
        cases A with
        | none => cases h
        | some a =>
          have h1 : a.block = j := by simpa [blkOf] using h
          have := (r3.lt a rfl).1
          omega
      have hno : ∀ j, j < w.heap.size + 4 → j ≠ w.heap.size → ¬ (j = w.heap.size + 4 ∨ j = w.heap.size ∨ blkOf A = some j) := by
        rintro j h1 h2 (h | h | h)
        · omega
        · omega
        · have := hAlt j h; omega
      obtain ⟨A1, c1, bx1, own1, rfl⟩ := hcb
      refine ⟨World.putObj_heap_same (Array.getElem?_eq_some_iff.1 hL5).1, (hso.block _ (by omega) (hno _ (by omega) (by omega))).trans hdf, ⟨some ⟨g', 0, none⟩, c', ?_, ?_⟩, hso.box hbc (hno _ (by omega) (by omega)), hso.box hbs (hno _ (by omega) (by omega)), ⟨blkOf A1, ⟨A1, c1, hso.box bx1 (hno _ (by omega) (by omega)), hso.own own1 ?_, rfl⟩, hYX⟩, hsm.trans hso ?_⟩
      · rw [List.length_append]
        exact (q5.set 0 (.slice (some ⟨g', 0, none⟩) (st.2.1.length + 1) c')).put _ _ (by omega)
      · exact OwnL.put (hown5.keep fun a ha => heap_setCell_other _ _ _ _ (by have := (hown5.lt a ha).1; show a.block ≠ w.heap.size; omega)) _ _ (by omega)
      · rintro a rfl (h | h | h)
        · rcases hYX with h2 | ⟨b, h2, h3⟩
          · have := hX a.block (by rw [← h2]; rfl); omega
          · have h4 : a.block = b := by simpa [blkOf] using h2
            omega
        · rcases hYX with h2 | ⟨b, h2, h3⟩
          · have := hX a.block (by rw [← h2]; rfl); omega
          · have h4 : a.block = b := by simpa [blkOf] using h2
            omega
        · cases A with
          | none => cases h
          | some a' => exact OwnL.apart hown5q own1 (by decide) a' a rfl rfl (by simpa [blkOf] using h)
      · rintro j hj (h | h | h)
        · omega
        · omega
        · have := hAlt j h; omega
    refine (it_pieces w g hg X hX rc s (by omega) sum hsum rest hrest hR W1 hCJ).mono ?_
    rintro e W' ⟨hv, hj⟩
    refine ⟨hv, .inl ⟨hj.book, ?_⟩⟩
    obtain ⟨hbk, hdf, ⟨A, c, hbo, hown⟩, hbc, hbs, ⟨Y, ⟨A1, c1, bx1, own1, hY1⟩, hYX⟩, hsm⟩ := hj
    have hsz5 : w.heap.size + 5 ≤ W'.heap.size := by have := (Array.getElem?_eq_some_iff.1 hbk).1; omega
    have r0 := hbo.put (w.heap.size + 3 + 1) (.loop (rc .exhausted none)) (by omega)
    have q0 := r0.cell (j := 0) rfl
    have hD2 : (W'.putObj (w.heap.size + 3 + 1) (.loop (rc .exhausted none))).heap[w.heap.size + 3]? = some (.deferred (some [])) := (World.putObj_heap_other (by omega)).trans hdf
    clear hR y0 y1 y2 x0 x1 x2 b2 b3 hround hl hD hB hW1 hCJ hc1
    gi_wp2
    refine ⟨by simp, .inl ⟨_, _, rfl, run_takeDeferred hD2, ?_⟩⟩
    refine ⟨_, results_tmp rfl _ _ _, ?_⟩
    have hso : SameBut (fun j => j = w.heap.size + 3 + 1 ∨ j = w.heap.size + 3) W' ((W'.putObj (w.heap.size + 3 + 1) (.loop (rc .exhausted none))).putObj (w.heap.size + 3) (.deferred none)) :=
      ((SameBut.refl W').put _ _ (fun _ => .inl rfl)).put _ _ (fun _ => .inr rfl)
    refine ⟨A, c, Y, rfl, (hso.own hown ?_).base_le (by omega), ⟨A1, c1, hso.box bx1 (by omega), hso.own own1 ?_, hY1⟩, hYX.imp id (fun ⟨b, h, h2⟩ => ⟨b, h, by omega⟩), hsm.trans hso (fun j hj h => by omega)⟩
    · rintro a ha h
      have := (hown.lt a ha).1
      omega
    · rintro a rfl h
      rcases hYX with h2 | ⟨b, h2, h3⟩
      · have := hX a.block (by rw [← h2, ← hY1]; rfl); omega
      · have h4 : a.block = b := by rw [← hY1] at h2; simpa [blkOf] using h2
        omega
end Go.Proofs.YtbchkaoocobpfaaDoor
