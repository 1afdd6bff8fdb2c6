/- Walk: span.Parse: a round of its loop. -/
import Derived.Test.YtemjoiaapfhenaaGreatDoorWWnt
import Derived.Test.YtemjoiaapfhenaaGreatDoorGd00
import Derived.Test.YtemjoiaapfhenaaGreatDoorGd02
import Derived.RangeFuncNested
import Derived.RangeFuncBound
import Derived.RangeFuncCalls
import Derived.RangeFuncLeaves
import Derived.Shelf.Abstract
import Derived.Shelf.RegionOpen
import Derived.WalkKit
import Derived.TacticsInMore
import Derived.LoopNIn
import Derived.LoopIn
namespace Go.Proofs.YtemjoiaapfhenaaGreatDoor
open Go.RowKit Go.Larder Go.Shelf
attribute [local go_sem] Oper.semAt_some
set_option linter.unusedVariables false
set_option linter.unusedSimpArgs false
theorem sl_want : SlT Tryz.prog 63 109 2 16 := SlT.mk' (z := .agg #[.int .i64 0, .int .i64 0]) Tryz.underlying63 (by kernel_rfl) rfl
/-- What stands between two rounds: the iterator's text r; the results; the loop's record. -/
structure PJ (w : World) (N : Nat) (rec : Loop) (res : List Value) (er : Int) (r : List UInt8) (wr : World) : Prop where
  book : wr.heap[N + 5]? = some (.loop rec)
  dfr : wr.heap[N + 4]? = some (.deferred (some []))
  bres : BoxAt wr w.heap.size 63 res
  berr : BoxAt wr (w.heap.size + 1) 23 [.int .i64 er]
  bs : BoxAt wr (N + 1) 9 [S r]
  bsep : BoxAt wr (N + 2) 9 [S [44]]
  bsv : BoxAt wr (N + 3) 3 [.int .i64 0]
  bel : Below w.heap.size w wr
/-- the ranges of the pieces that came -/
def PO (N : Nat) (pre : List (List UInt8)) (wr : World) : Prop :=
  ∃ o A c, wAll pre = some o ∧ BoxAt wr N 63 [.slice A o.length c] ∧ OwnL encII wr (N + 6) 109 A c o
theorem w_splitSeq (s sep : List UInt8) (w : World) : Calls Tryz.prog 171 #[S s, S sep] w fun e w' => e = .returned (.func (.func 227) #[] #[.pointer (some ⟨w.heap.size + 1, 0, none⟩), .pointer (some ⟨w.heap.size, 0, none⟩), .pointer (some ⟨w.heap.size + 2, 0, none⟩)]) ∧
    w' = ((w.alloc (.cells #[S s] 9)).alloc (.cells #[S sep] 9)).alloc (.cells #[.int .i64 0] 3) := by
  have h : Calls Tryz.prog 206 #[S s, S sep, .int .i64 0] w fun e w' => e = .returned (.func (.func 227) #[] #[.pointer (some ⟨w.heap.size + 1, 0, none⟩), .pointer (some ⟨w.heap.size, 0, none⟩), .pointer (some ⟨w.heap.size + 2, 0, none⟩)]) ∧
    w' = ((w.alloc (.cells #[S s] 9)).alloc (.cells #[S sep] 9)).alloc (.cells #[.int .i64 0] 3) := by
    go_enter Tryz.func206, Tryz.ntmps206
    go_wp2_with fail
    go_ret
    exact ⟨by simp, rfl⟩
  go_enter Tryz.func171, Tryz.ntmps171
  go_wp2_with fail
  refine h.mono ?_
  rintro e w1 ⟨rfl, rfl⟩
  go_wp2_with fail
  go_ret
  exact ⟨rfl, rfl⟩
theorem PJ.set {w : World} {N : Nat} {rec : Loop} {res : List Value} {er : Int} {r : List UInt8} {wr : World} (hN : w.heap.size + 2 ≤ N) (h : PJ w N rec res er r wr) (r' : List UInt8) : PJ w N rec res er r' (wr.setCell ⟨N + 1, 0, none⟩ (S r')) :=
  ⟨(heap_setCell_other _ _ _ _ (by show N + 5 ≠ N + 1; omega)).trans h.book, (heap_setCell_other _ _ _ _ (by show N + 4 ≠ N + 1; omega)).trans h.dfr,
    h.bres.setOther _ (by show w.heap.size ≠ N + 1; omega) _, h.berr.setOther _ (by show w.heap.size + 1 ≠ N + 1; omega) _, by simpa using h.bs.set 0 (S r'), h.bsep.setOther _ (by show N + 2 ≠ N + 1; omega) _, h.bsv.setOther _ (by show N + 3 ≠ N + 1; omega) _,
    h.bel.setCell (p := ⟨N + 1, 0, none⟩) (by show w.heap.size ≤ N + 1; omega) _⟩
theorem PO.set {N : Nat} {pre : List (List UInt8)} {wr : World} (h : PO N pre wr) (v : Value) : PO N pre (wr.setCell ⟨N + 1, 0, none⟩ v) := by
  obtain ⟨o, A, c, h1, h2, h3⟩ := h
  exact ⟨o, A, c, h1, h2.setOther _ (by show N ≠ N + 1; omega) _, h3.keep fun g hg => heap_setCell_other _ _ _ _ (by have := (h3.lt g hg).1; show g.block ≠ N + 1; omega)⟩
def Rnd (w : World) (N : Nat) (rc : RecOf) : Prop := ∀ (pre : List (List UInt8)) (x r : List UInt8) (W : World), x.length ≤ 1048576 → pre.length ≤ 1048576 → PJ w N (rc .ready none) [.slice none 0 0] 0 r W → PO N pre W →
  YieldAt Fence.wide (8 - 1 - 1) Tryz.prog (N + 5) #[S x] W fun e W' => (e = .returned (.bool true) ∧ PJ w N (rc .ready none) [.slice none 0 0] 0 r W' ∧ PO N (pre ++ [x]) W') ∨ (e = .returned (.bool false) ∧ PJ w N (rc .done (some .ret)) [.slice none 0 0] 3 r W' ∧ wOf (trim x) = none)
theorem spl_at {r : List UInt8} {k : Nat} (h : Lib.indexByte r 44 = (k : Int)) : spl 44 r = r.take k :: spl 44 (r.drop (k + 1)) ∧ k < r.length := by
  obtain ⟨h1, h2⟩ := cut1_at h
  have h3 := cut1_true (c := 44) (l := r) (by rw [h1])
  rw [h1] at h3
  obtain ⟨h4, h5⟩ := h3
  refine ⟨?_, h2⟩
  have h6 := spl_app (r.drop (k + 1)) h5
  simp only at h4 h6
  rw [← h4] at h6
  exact h6
theorem spl_no {r : List UInt8} (h : Lib.indexByte r 44 = -1) : spl 44 r = [r] := spl_free (by
  have h1 := cut1_none h
  exact (cut1_false (c := 44) (l := r) (by rw [h1])).2)
set_option maxHeartbeats 8000000 in
set_option maxRecDepth 100000 in
theorem it_split (w : World) (N : Nat) (hN : w.heap.size + 2 ≤ N) (hML : ∀ W, Below w.heap.size w W → ML W) (rc : RecOf) (t : List UInt8) (ht : t.length ≤ 1048576) (hR : Rnd w N rc) (W1 : World) (h1 : PJ w N (rc .ready none) [.slice none 0 0] 0 t W1) (h2 : PO N [] W1) :
    CallsIn Fence.wide (8 - 1) Tryz.prog 227 (#[.func (.yield (N + 5)) #[] #[]] ++ #[.pointer (some ⟨N + 2, 0, none⟩), .pointer (some ⟨N + 1, 0, none⟩), .pointer (some ⟨N + 3, 0, none⟩)]) W1 fun e W' => (∃ v, e = .returned v) ∧
      ((∃ r, PJ w N (rc .ready none) [.slice none 0 0] 0 r W' ∧ PO N (spl 44 t) W') ∨ (∃ r, PJ w N (rc .done (some .ret)) [.slice none 0 0] 3 r W' ∧ wAll (spl 44 t) = none)) := by
  refine callsIn_of_wp Tryz.func227 rfl trivial ?_ rfl
  simp only [Tryz.ntmps227, List.size_toArray, List.length_cons, List.length_nil, Nat.reduceAdd, Nat.reduceSub, Array.replicate_succ, Array.replicate_zero, List.push_toArray, List.append_toArray, List.nil_append, List.cons_append]
  have c1 := h1.bsep.cell (j := 0) rfl
  gi_wp2
  gi_loopw [7, 8] (fun a b wr => ∃ (pre : List (List UInt8)) (r : List UInt8), PJ w N (rc .ready none) [.slice none 0 0] 0 r wr ∧ PO N pre wr ∧ spl 44 t = pre ++ spl 44 r ∧ r.length ≤ t.length) (fun _ _ wr => lenOf ((wr.cell? ⟨N + 1, 0, none⟩).getD undef))
  case atStart => exact ⟨[], t, h1, h2, rfl, Nat.le_refl _⟩
  case round =>
    obtain ⟨pre, r, hj, ho, hsp, hrl⟩ := hrel
    have d1 := hj.bsep.cell (j := 0) rfl
    have d2 := hj.bs.cell (j := 0) rfl
    have d3 := hj.bsv.cell (j := 0) rfl
    have hix := fun W => c1_Index r 44 W
    have hpl : pre.length ≤ 1048576 := by
      have h3 := congrArg List.length hsp
      have h4 : t.count 44 ≤ t.length := List.count_le_length
      rw [List.length_append, spl_len, spl_len] at h3
      omega
    rcases ixb_cases r 44 with hi | ⟨k, hi⟩
    · rw [hi] at hix
      rw [spl_no hi] at hsp
      have hy := hR pre r r wr (by omega) hpl hj ho
      obtain ⟨fn, tmps, assign, body, hy1, hy2⟩ := hy
      have Hsp := Lib.hid hsp
      clear hsp hi
      gi_wp2_with (refine ⟨trivial, ?_⟩; gi_at_call 71; refine (callsIn_wide.2 (hix _)).mono ?_; rintro e w' ⟨rfl, rfl⟩)
      refine hy2.mono ?_
      rintro e W' (⟨rfl, hj', ho'⟩ | ⟨rfl, hj', hw⟩)
      · gi_wp2
        go_end0
        exact ⟨⟨_, rfl⟩, .inl ⟨r, hj', by rw [Hsp.out]; exact ho'⟩⟩
      · gi_wp2
        go_end0
        exact ⟨⟨_, rfl⟩, .inr ⟨r, hj', by rw [Hsp.out]; exact wAll_bad hw⟩⟩
    · rw [hi] at hix
      obtain ⟨hs1, hkl⟩ := spl_at hi
      rw [hs1] at hsp
      have sl := fun w => run_sliceU (P := Tryz.prog) 9 Tryz.underlying9 r (k : Int) (by omega) (by omega) w
      have sd := fun w => run_sliceT (P := Tryz.prog) 9 Tryz.underlying9 r ((k : Int) + 1) (by omega) (by omega) w
      rw [Int.toNat_natCast] at sl
      rw [show ((k : Int) + 1).toNat = k + 1 from by omega] at sd
      have hy := hR pre (r.take k) r wr (by rw [List.length_take]; omega) hpl hj ho
      obtain ⟨fn, tmps, assign, body, hy1, hy2⟩ := hy
      have Hsp := Lib.hid hsp
      have hdl : (r.drop (k + 1)).length < r.length := by rw [List.length_drop]; omega
      clear hsp hi hs1
      gi_wp2_with (refine ⟨trivial, ?_⟩; gi_at_call 71; refine (callsIn_wide.2 (hix _)).mono ?_; rintro e w' ⟨rfl, rfl⟩)
      refine hy2.mono ?_
      rintro e W' (⟨rfl, hj', ho'⟩ | ⟨rfl, hj', hw⟩)
      · have e1 := hj'.bsep.cell (j := 0) rfl
        have e2 := hj'.bs.cell (j := 0) rfl
        have e3 := hj'.bs.free 0
        gi_wp2
        have hj2 := hj'.set hN (r.drop (k + 1))
        have e4 := hj2.bs.cell (j := 0) rfl
        refine ⟨⟨pre ++ [r.take k], r.drop (k + 1), hj2, ho'.set _, by rw [Hsp.out]; simp, by omega⟩, ?_⟩
        rw [e4, d2]
        simp only [Option.getD_some, lenOf_S]
        exact hdl
      · gi_wp2
        refine bodyPost_ret (results_none rfl _ _ _) rfl ?_
        exact ⟨⟨_, rfl⟩, .inr ⟨r, hj', by rw [Hsp.out]; exact wAll_bad hw⟩⟩
set_option maxHeartbeats 8000000 in
set_option maxRecDepth 100000 in
theorem w_SParse (s : List UInt8) (hs : s.length ≤ 1048576) (w : World) (hE : EV w) (hP : PW w) (hM : ML w) :
    Calls Tryz.prog 123 #[S s] w (SlPost encII 109 w (spnE s)) := by
  have hcp := fun W => w_CutPre s [98, 121, 116, 101, 115, 61] W
  have hsq := fun t W => w_splitSeq t [44] W
  refine (callsIn_wide (n := 8)).1 ?_
  refine callsIn_of_wp_marks Tryz.func123 rfl trivial ?_ rfl
  simp only [Tryz.ntmps123, List.size_toArray, List.length_cons, List.length_nil, Nat.reduceAdd, Nat.reduceSub, Array.replicate_succ, Array.replicate_zero, List.push_toArray, List.append_toArray, List.nil_append, List.cons_append]
  cases hpx : Lib.hasPrefix s [98, 121, 116, 101, 115, 61]
  · rw [hpx] at hcp
    gi_wp2_with (refine ⟨trivial, ?_⟩; gi_at_call 170; refine (callsIn_wide.2 (hcp _)).mono ?_; rintro e w1 ⟨rfl, hb1⟩; have bz0 := ((BoxAt.new w [.slice none 0 0] 63).alloc (.cells #[.int .i64 0] 23)).keep hb1; have bz1 := (BoxAt.new (w.alloc (.cells #[.slice none 0 0] 63)) [.int .i64 0] 23).keep hb1; rw [World.size_alloc] at bz1; have q0 := bz0.cell (j := 0) rfl; have q1 := bz1.cell (j := 0) rfl; have f0 := bz0.free 0; have f1 := bz1.free 0)
    have hne : ¬ s.take 6 = bytesEq := fun h => by
      have h0 := Lib.hasPrefix_of_take s [98, 121, 116, 101, 115, 61]
      rw [hpx] at h0
      have hl := congrArg List.length h
      rw [List.length_take] at hl
      simp only [bytesEq, List.length_cons, List.length_nil] at hl h
      simp [h] at h0
      omega
    rw [show spnE s = .error 3 from by unfold spnE; rw [if_neg hne]]
    have bq0 := (bz0.set 0 (.slice none 0 0)).setOther ⟨w.heap.size + 1, 0, none⟩ (by simp) (.int .i64 3)
    have bq1 := (bz1.setOther ⟨w.heap.size, 0, none⟩ (by simp) (.slice none 0 0)).set 0 (.int .i64 3)
    refine ⟨_, results_cc rfl rfl rfl (bq0.cell (j := 0) rfl) (bq1.cell (j := 0) rfl) Tryz.underlying63 rfl Tryz.underlying23 rfl, ?_⟩
    have hbw : Below w.heap.size w ((w.alloc (.cells #[.slice none 0 0] 63)).alloc (.cells #[.int .i64 0] 23)) := ((Below.refl _ _).alloc (Nat.le_refl _) _).alloc (by simp) _
    exact ⟨rfl, ((hbw.trans (hb1.mono hbw.size)).setCell (p := ⟨w.heap.size, 0, none⟩) (Nat.le_refl _) _).setCell (p := ⟨w.heap.size + 1, 0, none⟩) (Nat.le_succ _) _⟩
  · rw [hpx] at hcp
    have htp : Lib.trimPrefix s [98, 121, 116, 101, 115, 61] = s.drop 6 := by unfold Lib.trimPrefix; rw [hpx]; rfl
    rw [htp] at hcp
    have hsp : spnE s = (match wAll (spl 44 (s.drop 6)) with
      | none => .error 3
      | some l => if 20 < l.length then .error 2 else .ok l) := by
      have h0 := Lib.hasPrefix_of_take s [98, 121, 116, 101, 115, 61]
      rw [hpx] at h0
      have h1 : s.take 6 = bytesEq := (show 6 ≤ s.length ∧ s.take 6 = [98, 121, 116, 101, 115, 61] by simpa using h0).2
      unfold spnE
      rw [if_pos h1]
      cases wAll (spl 44 (s.drop 6)) <;> rfl
    rw [hsp]
    have hdl : (s.drop 6).length ≤ 1048576 := by rw [List.length_drop]; omega
    generalize s.drop 6 = t at *
    obtain ⟨R, hRR⟩ : ∃ R, (match wAll (spl 44 t) with
      | none => (.error 3 : Except Int (List (Int × Int)))
      | some l => if 20 < l.length then .error 2 else .ok l) = R := ⟨_, rfl⟩
    rw [hRR]
    have HR := Lib.hid hRR
    clear hRR hsp
    gi_wp2_with (first
      | (refine ⟨trivial, ?_⟩; gi_at_call 170; refine (callsIn_wide.2 (hcp _)).mono ?_; rintro e w1 ⟨rfl, hb1⟩; have bz0 := ((BoxAt.new w [.slice none 0 0] 63).alloc (.cells #[.int .i64 0] 23)).keep hb1; have bz1 := (BoxAt.new (w.alloc (.cells #[.slice none 0 0] 63)) [.int .i64 0] 23).keep hb1; rw [World.size_alloc] at bz1)
      | (refine ⟨trivial, ?_⟩; gi_at_call 171; refine (callsIn_wide.2 (hsq t _)).mono ?_; rintro e w' ⟨rfl, rfl⟩))
    have hNw : w.heap.size + 2 ≤ w1.heap.size := by have := hb1.size; simp at this; omega
    refine range_raw rfl (by omega) (gf := 227) (lb := #[.pointer (some ⟨w1.heap.size + 1 + 1, 0, none⟩), .pointer (some ⟨w1.heap.size + 1, 0, none⟩), .pointer (some ⟨w1.heap.size + 1 + 2, 0, none⟩)]) ?_ trivial (enters_of Tryz.func227 (by kernel_rfl) rfl) (encs := fun x : List UInt8 => #[S x]) (fun x => rfl) ?_
    · rfl
    · intro rc W1 hW1 hl hD hB hround
      have hsz : ((((w1.alloc (.cells #[.slice none 0 0] 63)).alloc (.cells #[S t] 9)).alloc (.cells #[S [44]] 9)).alloc (.cells #[.int .i64 0] 3)).heap.size = w1.heap.size + 4 := by simp
      rw [hsz] at hl hD hround ⊢
      have hbw : Below w.heap.size w w1 := by
        have h0 : Below w.heap.size w ((w.alloc (.cells #[.slice none 0 0] 63)).alloc (.cells #[.int .i64 0] 23)) := ((Below.refl _ _).alloc (Nat.le_refl _) _).alloc (by simp) _
        exact h0.trans (hb1.mono h0.size)
      have b2 : Below w1.heap.size w1 ((((w1.alloc (.cells #[.slice none 0 0] 63)).alloc (.cells #[S t] 9)).alloc (.cells #[S [44]] 9)).alloc (.cells #[.int .i64 0] 3)) := ((((Below.refl w1.heap.size w1).alloc (Nat.le_refl _) _).alloc (by simp) _).alloc (by simp; omega) _).alloc (by simp; omega) _
      have b3 := b2.trans (hB.mono b2.size)
      have x0 := BoxAt.new w1 [.slice none 0 0] 63
      have x1 := BoxAt.new (w1.alloc (.cells #[.slice none 0 0] 63)) [S t] 9
      have x2 := BoxAt.new ((w1.alloc (.cells #[.slice none 0 0] 63)).alloc (.cells #[S t] 9)) [S [44]] 9
      have x3 := BoxAt.new (((w1.alloc (.cells #[.slice none 0 0] 63)).alloc (.cells #[S t] 9)).alloc (.cells #[S [44]] 9)) [.int .i64 0] 3
      have y0 := (((x0.alloc (.cells #[S t] 9)).alloc (.cells #[S [44]] 9)).alloc (.cells #[.int .i64 0] 3)).keep hB
      have y1 := ((x1.alloc (.cells #[S [44]] 9)).alloc (.cells #[.int .i64 0] 3)).keep hB
      have y2 := (x2.alloc (.cells #[.int .i64 0] 3)).keep hB
      have y3 := x3.keep hB
      simp only [World.size_alloc] at y1 y2 y3
      have hPJ : PJ w w1.heap.size (rc .ready none) [.slice none 0 0] 0 t W1 := ⟨hl, hD, bz0.keep b3, bz1.keep b3, y1, y2, y3, hbw.trans (b3.mono hbw.size)⟩
      have hPO : PO w1.heap.size [] W1 := ⟨[], none, 0, rfl, y0, OwnL.nil _ _ _⟩
      have hR : Rnd w w1.heap.size rc := by
        intro pre x r W hx hp hj ho
        refine hround x W _ hj.book ?_
        have hbp := below_put hj.bel (w1.heap.size + 4 + 1) (.loop (rc .busy none)) (by omega)
        have hwt := w_want x (by omega) (W.putObj (w1.heap.size + 4 + 1) (.loop (rc .busy none))) (hE.keep hbp) (hP.keep hbp)
        obtain ⟨o, A, c, hw, hbo, hown⟩ := ho
        have hol : o.length ≤ 1048576 := by rw [wAll_len hw]; exact hp
        have r0 := hj.bres.put (w1.heap.size + 4 + 1) (.loop (rc .busy none)) (by omega)
        have r1 := hj.berr.put (w1.heap.size + 4 + 1) (.loop (rc .busy none)) (by omega)
        have r2 := hbo.put (w1.heap.size + 4 + 1) (.loop (rc .busy none)) (by omega)
        have r3 := hown.put (w1.heap.size + 4 + 1) (.loop (rc .busy none)) (by omega)
        have t1 := hj.bs.put (w1.heap.size + 4 + 1) (.loop (rc .busy none)) (by omega)
        have t2 := hj.bsep.put (w1.heap.size + 4 + 1) (.loop (rc .busy none)) (by omega)
        have t3 := hj.bsv.put (w1.heap.size + 4 + 1) (.loop (rc .busy none)) (by omega)
        have hD2 : (W.putObj (w1.heap.size + 4 + 1) (.loop (rc .busy none))).heap[w1.heap.size + 4]? = some (.deferred (some [])) := (World.putObj_heap_other (by omega)).trans hj.dfr
        have hL2 : (W.putObj (w1.heap.size + 4 + 1) (.loop (rc .busy none))).heap[w1.heap.size + 4 + 1]? = some (.loop (rc .busy none)) := World.putObj_heap_same (by have := (Array.getElem?_eq_some_iff.1 hj.book).1; omega)
        have hbook := hj.book
        have hwsz : (W.putObj (w1.heap.size + 4 + 1) (.loop (rc .busy none))).heap.size = W.heap.size := by simp
        have hw6 : w1.heap.size + 6 ≤ W.heap.size := by have := (Array.getElem?_eq_some_iff.1 hj.book).1; omega
        gi_wp2_with fail
        rw [← hwsz] at hw6
        clear hj hbo hown hround hPJ hPO b2 b3 x0 x1 x2 x3 y0 y1 y2 y3 hwsz hbook
        generalize W.putObj (w1.heap.size + 4 + 1) (.loop (rc .busy none)) = W2 at *
        have Hw := Lib.hid hw
        clear hw
        cases hwo : wOf (trim x) with
        | none =>
          refine ⟨trivial, ?_⟩
          refine (CallsIn.inRound _ (callsIn_wide.2 hwt)).mono ?_
          rintro e w3 ⟨a, b, good, rfl, hgd, hpr, hb3⟩
          rw [hwo] at hgd
          simp only [Option.isSome_none] at hgd
          subst hgd
          have q0 := (r0.keep hb3).alloc (.cells #[.int .i64 a, .int .i64 b] 109)
          have q1 := (r1.keep hb3).alloc (.cells #[.int .i64 a, .int .i64 b] 109)
          have c0 := q0.cell (j := 0) rfl
          have c1 := q1.cell (j := 0) rfl
          have f0 := q0.free 0
          have f1 := q1.free 0
          gi_wp2
          have hs3 := hb3.size
          have hL3 : (w3.alloc (.cells #[.int .i64 a, .int .i64 b] 109)).heap[w1.heap.size + 4 + 1]? = some (.loop (rc .busy none)) := (Below.heap_alloc _ _ _ (by omega)).trans ((hb3.block _ (by omega)).trans hL2)
          have hD3 : (w3.alloc (.cells #[.int .i64 a, .int .i64 b] 109)).heap[w1.heap.size + 4]? = some (.deferred (some [])) := (Below.heap_alloc _ _ _ (by omega)).trans ((hb3.block _ (by omega)).trans hD2)
          have u1 := (t1.keep hb3).alloc (.cells #[.int .i64 a, .int .i64 b] 109)
          have u2 := (t2.keep hb3).alloc (.cells #[.int .i64 a, .int .i64 b] 109)
          have u3 := (t3.keep hb3).alloc (.cells #[.int .i64 a, .int .i64 b] 109)
          have hbw3 : Below w.heap.size w (w3.alloc (.cells #[.int .i64 a, .int .i64 b] 109)) := (hbp.trans (hb3.mono hbp.size)).alloc (by omega) _
          generalize w3.alloc (.cells #[.int .i64 a, .int .i64 b] 109) = w4 at *
          have hL4 : ((w4.setCell ⟨w.heap.size, 0, none⟩ (.slice none 0 0)).setCell ⟨w.heap.size + 1, 0, none⟩ (.int .i64 3)).heap[w1.heap.size + 4 + 1]? = some (.loop (rc .busy none)) := (heap_setCell_other _ _ _ _ (by show w1.heap.size + 4 + 1 ≠ w.heap.size + 1; omega)).trans ((heap_setCell_other _ _ _ _ (by show w1.heap.size + 4 + 1 ≠ w.heap.size; omega)).trans hL3)
          have hD4 : ((w4.setCell ⟨w.heap.size, 0, none⟩ (.slice none 0 0)).setCell ⟨w.heap.size + 1, 0, none⟩ (.int .i64 3)).heap[w1.heap.size + 4]? = some (.deferred (some [])) := (heap_setCell_other _ _ _ _ (by show w1.heap.size + 4 ≠ w.heap.size + 1; omega)).trans ((heap_setCell_other _ _ _ _ (by show w1.heap.size + 4 ≠ w.heap.size; omega)).trans hD3)
          have v0 := (q0.set 0 (.slice none 0 0)).setOther ⟨w.heap.size + 1, 0, none⟩ (by show w.heap.size ≠ w.heap.size + 1; omega) (.int .i64 3)
          have v1 := (q1.setOther ⟨w.heap.size, 0, none⟩ (by show w.heap.size + 1 ≠ w.heap.size; omega) (.slice none 0 0)).set 0 (.int .i64 3)
          have so : ∀ {g : Nat} {ty : TypeId} {cs : List Value}, w1.heap.size ≤ g → BoxAt w4 g ty cs → BoxAt ((w4.setCell ⟨w.heap.size, 0, none⟩ (.slice none 0 0)).setCell ⟨w.heap.size + 1, 0, none⟩ (.int .i64 3)) g ty cs := fun hg h => (h.setOther ⟨w.heap.size, 0, none⟩ (by show _ ≠ w.heap.size; omega) _).setOther ⟨w.heap.size + 1, 0, none⟩ (by show _ ≠ w.heap.size + 1; omega) _
          have hbw5 := (hbw3.setCell (p := ⟨w.heap.size, 0, none⟩) (Nat.le_refl _) (.slice none 0 0)).setCell (p := ⟨w.heap.size + 1, 0, none⟩) (Nat.le_succ _) (.int .i64 3)
          refine ⟨hL4, .inr ⟨rfl, ⟨World.putObj_heap_same (Array.getElem?_eq_some_iff.1 hL4).1, (World.putObj_heap_other (by omega)).trans hD4, v0.put _ _ (by omega), v1.put _ _ (by omega), (so (by omega) u1).put _ _ (by omega), (so (by omega) u2).put _ _ (by omega), (so (by omega) u3).put _ _ (by omega), below_put hbw5 _ _ (by omega)⟩, hwo⟩⟩
        | some p =>
          obtain ⟨p1, p2⟩ := p
          refine ⟨trivial, ?_⟩
          refine (CallsIn.inRound _ (callsIn_wide.2 hwt)).mono ?_
          rintro e w3 ⟨a, b, good, rfl, hgd, hpr, hb3⟩
          have hpq := hpr _ hwo
          rw [hwo] at hgd
          simp only [Option.isSome_some] at hgd
          subst hgd
          injection hpq with hp1 hp2
          subst hp1 hp2
          have hs3 := hb3.size
          have q2 := (r2.keep hb3).alloc (.cells #[.int .i64 p1, .int .i64 p2] 109)
          have c2 := q2.cell (j := 0) rfl
          have hown3 := ((r3.keep fun g hg => hb3.block g.block (by have := (r3.lt g hg).2; omega)) : OwnL encII w3 (w1.heap.size + 6) 109 A c o).alloc (.cells #[.int .i64 p1, .int .i64 p2] 109)
          gi_wp2_with (gi_at_builtin; refine wpListIn_app encII sl_want [(p1, p2)] rfl _ _ rfl rfl hown3 #[.int .i64 p1, .int .i64 p2] rfl 0 rfl (by first | rfl | (simp [go_sem]; done)) (by omega) (by simp only [maxLen]; omega) (by simp; omega) ?_; intro g' c' w5 hown5 hb5; have q5 := q2.kept hb5 (by omega); have c5 := q5.cell (j := 0) rfl; have f5 := q5.free 0)
          have hL3 : (w3.alloc (.cells #[.int .i64 p1, .int .i64 p2] 109)).heap[w1.heap.size + 4 + 1]? = some (.loop (rc .busy none)) := (Below.heap_alloc _ _ _ (by omega)).trans ((hb3.block _ (by omega)).trans hL2)
          have hD3 : (w3.alloc (.cells #[.int .i64 p1, .int .i64 p2] 109)).heap[w1.heap.size + 4]? = some (.deferred (some [])) := (Below.heap_alloc _ _ _ (by omega)).trans ((hb3.block _ (by omega)).trans hD2)
          have hL5 : (w5.setCell ⟨w1.heap.size, 0, none⟩ (.slice (some ⟨g', 0, none⟩) (o.length + 1) c')).heap[w1.heap.size + 4 + 1]? = some (.loop (rc .busy none)) := (heap_setCell_other _ _ _ _ (by show w1.heap.size + 4 + 1 ≠ w1.heap.size; omega)).trans ((hb5.block _ (by omega)).trans hL3)
          have hD5 : (w5.setCell ⟨w1.heap.size, 0, none⟩ (.slice (some ⟨g', 0, none⟩) (o.length + 1) c')).heap[w1.heap.size + 4]? = some (.deferred (some [])) := (heap_setCell_other _ _ _ _ (by show w1.heap.size + 4 ≠ w1.heap.size; omega)).trans ((hb5.block _ (by omega)).trans hD3)
          have so : ∀ {g : Nat} {ty : TypeId} {cs : List Value}, g ≠ w1.heap.size → g < w1.heap.size + 4 → BoxAt W2 g ty cs → BoxAt ((w5.setCell ⟨w1.heap.size, 0, none⟩ (.slice (some ⟨g', 0, none⟩) (o.length + 1) c')).putObj (w1.heap.size + 4 + 1) (.loop (rc .ready none))) g ty cs := fun hg hg2 h => ((((h.keep hb3).alloc (.cells #[.int .i64 p1, .int .i64 p2] 109)).kept hb5 (by omega)).setOther ⟨w1.heap.size, 0, none⟩ (by show _ ≠ w1.heap.size; omega) _).put _ _ (by omega)
          have hbw3 : Below w.heap.size w (w3.alloc (.cells #[.int .i64 p1, .int .i64 p2] 109)) := (hbp.trans (hb3.mono hbp.size)).alloc (by omega) _
          have hbw5 := (hbw3.trans (hb5.mono (by omega))).setCell (p := ⟨w1.heap.size, 0, none⟩) (by show w.heap.size ≤ w1.heap.size; omega) (.slice (some ⟨g', 0, none⟩) (o.length + 1) c')
          have hown6 : OwnL encII (w5.setCell ⟨w1.heap.size, 0, none⟩ (.slice (some ⟨g', 0, none⟩) (o.length + 1) c')) (w1.heap.size + 6) 109 (some ⟨g', 0, none⟩) c' (o ++ [(p1, p2)]) := hown5.keep fun g hg => heap_setCell_other _ _ _ _ (by have := (hown5.lt g hg).1; show g.block ≠ w1.heap.size; omega)
          have q6 := (q5.set 0 (.slice (some ⟨g', 0, none⟩) (o.length + 1) c')).put (w1.heap.size + 4 + 1) (.loop (rc .ready none)) (by omega)
          refine ⟨hL5, .inl ⟨rfl, ⟨World.putObj_heap_same (Array.getElem?_eq_some_iff.1 hL5).1, (World.putObj_heap_other (by omega)).trans hD5, so (by omega) (by omega) r0, so (by omega) (by omega) r1, so (by omega) (by omega) t1, so (by omega) (by omega) t2, so (by omega) (by omega) t3, below_put hbw5 _ _ (by omega)⟩, ⟨o ++ [(p1, p2)], some ⟨g', 0, none⟩, c', wAll_snoc Hw.out hwo, ?_, hown6.put _ _ (by omega)⟩⟩⟩
          rw [List.length_append]
          exact q6
      refine (it_split w w1.heap.size hNw (fun W h => hM.keep h) rc t hdl hR W1 hPJ hPO).mono ?_
      rintro e W' ⟨hv, ⟨r, hj, ho⟩ | ⟨r, hj, hbad⟩⟩
      · refine ⟨hv, .inl ⟨hj.book, ?_⟩⟩
        obtain ⟨o, A, c, hw, hbo, hown⟩ := ho
        have Hw := Lib.hid hw
        clear hw
        have hbe := below_put hj.bel (w1.heap.size + 4 + 1) (.loop (rc .exhausted none)) (by omega)
        have r0 := hj.bres.put (w1.heap.size + 4 + 1) (.loop (rc .exhausted none)) (by omega)
        have r1 := hj.berr.put (w1.heap.size + 4 + 1) (.loop (rc .exhausted none)) (by omega)
        have r2 := hbo.put (w1.heap.size + 4 + 1) (.loop (rc .exhausted none)) (by omega)
        have r3 := hown.put (w1.heap.size + 4 + 1) (.loop (rc .exhausted none)) (by omega)
        have hD2 : (W'.putObj (w1.heap.size + 4 + 1) (.loop (rc .exhausted none))).heap[w1.heap.size + 4]? = some (.deferred (some [])) := (World.putObj_heap_other (by omega)).trans hj.dfr
        generalize W'.putObj (w1.heap.size + 4 + 1) (.loop (rc .exhausted none)) = W2 at *
        have k0 := r2.cell (j := 0) rfl
        have q0 := r0.cell (j := 0) rfl
        have q1 := r1.cell (j := 0) rfl
        have f0 := r0.free 0
        have f1 := r1.free 0
        clear hj hbo hown hround hR hPJ hPO b2 b3 x0 x1 x2 x3 y0 y1 y2 y3 hv
        by_cases h20 : 20 < o.length
        · have h20i : (20 : Int) < o.length := by omega
          have HE := Lib.hid (show R = .error 2 from by rw [← HR.out, Hw.out]; simp only [if_pos h20])
          gi_wp2
          rw [HE.out]
          have z0 := ((r0.set 0 (.slice none 0 0)).setOther ⟨w.heap.size + 1, 0, none⟩ (by show w.heap.size ≠ w.heap.size + 1; omega) (.int .i64 2)).put (w1.heap.size + 4) (.deferred none) (by omega)
          have z1 := ((r1.setOther ⟨w.heap.size, 0, none⟩ (by show w.heap.size + 1 ≠ w.heap.size; omega) (.slice none 0 0)).set 0 (.int .i64 2)).put (w1.heap.size + 4) (.deferred none) (by omega)
          refine ⟨by simp, .inl ⟨_, _, rfl, run_takeDeferred ((heap_setCell_other _ _ _ _ (by show w1.heap.size + 4 ≠ w.heap.size + 1; omega)).trans ((heap_setCell_other _ _ _ _ (by show w1.heap.size + 4 ≠ w.heap.size; omega)).trans hD2)), ?_⟩⟩
          refine ⟨_, results_cc rfl rfl rfl (z0.cell (j := 0) rfl) (z1.cell (j := 0) rfl) Tryz.underlying63 rfl Tryz.underlying23 rfl, ?_⟩
          exact ⟨rfl, below_put ((hbe.setCell (p := ⟨w.heap.size, 0, none⟩) (Nat.le_refl _) _).setCell (p := ⟨w.heap.size + 1, 0, none⟩) (Nat.le_succ _) _) _ _ (by omega)⟩
        · have h20i : ¬ (20 : Int) < o.length := by omega
          have HE := Lib.hid (show R = .ok o from by rw [← HR.out, Hw.out]; simp only [if_neg h20])
          gi_wp2
          rw [HE.out]
          have z0 := ((r0.set 0 (.slice A o.length c)).setOther ⟨w.heap.size + 1, 0, none⟩ (by show w.heap.size ≠ w.heap.size + 1; omega) (.int .i64 0)).put (w1.heap.size + 4) (.deferred none) (by omega)
          have z1 := ((r1.setOther ⟨w.heap.size, 0, none⟩ (by show w.heap.size + 1 ≠ w.heap.size; omega) (.slice A o.length c)).set 0 (.int .i64 0)).put (w1.heap.size + 4) (.deferred none) (by omega)
          have own1 : ∀ (W : World) (g : Nat) (v : Value), g < w1.heap.size + 6 → OwnL encII W (w1.heap.size + 6) 109 A c o → OwnL encII (W.setCell ⟨g, 0, none⟩ v) (w1.heap.size + 6) 109 A c o := fun W g v hg h => h.keep fun g' hg' => heap_setCell_other _ _ _ _ (by have := (h.lt g' hg').1; show g'.block ≠ g; omega)
          refine ⟨by simp, .inl ⟨_, _, rfl, run_takeDeferred ((heap_setCell_other _ _ _ _ (by show w1.heap.size + 4 ≠ w.heap.size + 1; omega)).trans ((heap_setCell_other _ _ _ _ (by show w1.heap.size + 4 ≠ w.heap.size; omega)).trans hD2)), ?_⟩⟩
          refine ⟨_, results_cc rfl rfl rfl (z0.cell (j := 0) rfl) (z1.cell (j := 0) rfl) Tryz.underlying63 rfl Tryz.underlying23 rfl, ?_⟩
          exact ⟨A, c, rfl, ((own1 _ _ _ (by omega) (own1 _ _ _ (by omega) r3)).put _ _ (by omega)).base_le (by omega), below_put ((hbe.setCell (p := ⟨w.heap.size, 0, none⟩) (Nat.le_refl _) _).setCell (p := ⟨w.heap.size + 1, 0, none⟩) (Nat.le_succ _) _) _ _ (by omega)⟩
      · refine ⟨hv, .inr ⟨.ret, hj.book, ?_⟩⟩
        have HE := Lib.hid (show R = .error 3 from by rw [← HR.out, hbad])
        clear hbad
        gi_wp2
        rw [HE.out]
        have hD2 : (W'.putObj (w1.heap.size + 4 + 1) (.loop (rc .exhausted (some .ret)))).heap[w1.heap.size + 4]? = some (.deferred (some [])) := (World.putObj_heap_other (by omega)).trans hj.dfr
        have z0 := (hj.bres.put (w1.heap.size + 4 + 1) (.loop (rc .exhausted (some .ret))) (by omega)).put (w1.heap.size + 4) (.deferred none) (by omega)
        have z1 := (hj.berr.put (w1.heap.size + 4 + 1) (.loop (rc .exhausted (some .ret))) (by omega)).put (w1.heap.size + 4) (.deferred none) (by omega)
        refine ⟨by simp, .inl ⟨_, _, rfl, run_takeDeferred hD2, ?_⟩⟩
        refine ⟨_, results_cc rfl rfl rfl (z0.cell (j := 0) rfl) (z1.cell (j := 0) rfl) Tryz.underlying63 rfl Tryz.underlying23 rfl, ?_⟩
        exact ⟨rfl, below_put (below_put hj.bel _ _ (by omega)) _ _ (by omega)⟩
end Go.Proofs.YtemjoiaapfhenaaGreatDoor
