/- Walks: a response, read: the program's, the reference's; the law. -/
import Derived.Test.YtfgjbflddabdcaaGreatDoorWMrd
import Derived.Test.YtfgjbflddabdcaaGreatDoorMsre
import Derived.Test.YtfgjbflddabdcaaGreatDoorWStatP
import Derived.Test.YtfgjbflddabdcaaGreatDoorWStatR
import Derived.Test.YtfgjbflddabdcaaGreatDoorWEqF
import Derived.Deep.RegionWith
namespace Go.Proofs.YtfgjbflddabdcaaGreatDoor
open Go.RowKit Go.Larder
set_option linter.unusedVariables false
set_option linter.unusedSimpArgs false
/-- what is read: two words, the fields, the body, how many bytes -/
noncomputable def rdR (mt : List UInt8) (s : List UInt8) : Except Int (Int × List UInt8 × List Fld × List UInt8 × Int) := match stRes s with
  | (a, b, k, e) => if ¬ e = 0 then .error e else match mrE false mt a (s.drop k.toNat) with
    | .error n => .error n
    | .ok (l, body, n) => .ok (a, b, l, body, k + n)
def RdOut (W : World) (R : Except Int (Int × List UInt8 × List Fld × List UInt8 × Int)) (e : Ending) (W' : World) : Prop :=
  Below W.heap.size W W' ∧ match R with
    | .error n => e = .returned (.tuple #[.agg #[.int .i64 0, S [], .slice none 0 0, S []], .int .i64 0, .int .i64 n])
    | .ok (a, b, l, body, n) => ∃ A c, e = .returned (.tuple #[.agg #[.int .i64 a, S b, .slice A l.length c, S body], .int .i64 n, .int .i64 0]) ∧ ReadL encF W' W'.heap.size A l
/-- the first line told: an error has a number -/
theorem st_cases (s : List UInt8) : (∃ a b k, ∃ n : Int, stRes s = (a, b, k, n) ∧ (n == 0) = false) ∨ ∃ a b, ∃ k : Nat, stRes s = (a, b, (k : Int), 0) ∧ k ≤ s.length := by
  unfold stRes
  cases hl : lineE s 300 with
  | error n => exact .inl ⟨_, _, _, n, rfl, by have := lineE_err hl; simpa using this⟩
  | ok l =>
    have hll := lineE_len hl
    simp only
    cases stOf l with
    | none => exact .inl ⟨_, _, _, 3, rfl, rfl⟩
    | some p =>
      obtain ⟨a, b⟩ := p
      exact .inr ⟨a, b, l.length + 2, by simp, by omega⟩
set_option maxHeartbeats 8000000 in
set_option maxRecDepth 100000 in
theorem mr_prog (mt : List UInt8) (s : List UInt8) (hs : s.length ≤ 1048576) (w : World) (hM : ML w) (hE : EV w) (hP : PW w) :
    Calls Tryz.prog 14 #[S mt, S s] w (RdOut w (rdR mt s)) := by
  have hb0 : Below w.heap.size w (w.alloc (.cells #[.int .i64 0, S [], .slice none 0 0, S []] 30)) := (Below.refl _ _).alloc (Nat.le_refl _) _
  have bx0 := BoxAt.new w [.int .i64 0, S [], .slice none 0 0, S []] 30
  have hpa := w_ParseStatus s hs _ (hM.keep hb0) (hP.keep hb0) (hE.keep hb0)
  have hAll : ∀ W', Below w.heap.size w W' → ML W' ∧ EV W' ∧ PW W' := fun W' h => ⟨hM.keep h, hE.keep h, hP.keep h⟩
  have hmr := fun (req : Bool) (m : List UInt8) (code : Int) (t : List UInt8) (ht : t.length ≤ 1048576) (W : World) (b : Nat) (hb : w.heap.size ≤ b) (hW : Below w.heap.size w W) bx => mr_read req m code t ht b none 0 0 W bx (fun W' h => hAll W' (hW.trans (h.mono hb)))
  clear hM hE hP hAll
  rcases st_cases s with ⟨a0, b0, k0, n, hq, hz⟩ | ⟨a, b, k, hq, hk⟩
  · rw [show rdR mt s = .error n from by unfold rdR; rw [hq]; simp only; rw [if_pos (by simpa using hz)]]
    rw [hq] at hpa
    go_enter Tryz.func14, Tryz.ntmps14
    go_wp2_with fail
    refine hpa.mono ?_
    rintro e w1 ⟨rfl, hb1⟩
    have bx1 := bx0.keep hb1
    have hB1 := hb0.trans (hb1.mono hb0.size)
    have q0 := bx1.cell (j := 0) rfl
    have f0 := bx1.free 0
    have q1 := bx1.cell (j := 1) rfl
    have f1 := bx1.free 1
    have q2 := bx1.cell (j := 2) rfl
    have f2 := bx1.free 2
    have q3 := bx1.cell (j := 3) rfl
    have f3 := bx1.free 3
    clear bx0 hb0 hpa hmr hb1
    go_wp2_with fail
    refine bodyPost_ret (results_box3 (by rfl) _ _ w.heap.size [.int .i64 0, S [], .slice none 0 0, S []] _ (by rfl) ((((bx1.set 0 (.int .i64 0)).set 1 (S [])).set 2 (.slice none 0 0)).set 3 (S [])).all Tryz.underlying30 (by rfl) (by kernel_rfl)) rfl ?_
    exact ⟨(((hB1.setCell (p := ⟨w.heap.size, 0, none⟩) (Nat.le_refl _) _).setCell (p := ⟨w.heap.size, 1, none⟩) (Nat.le_refl _) _).setCell (p := ⟨w.heap.size, 2, none⟩) (Nat.le_refl _) _).setCell (p := ⟨w.heap.size, 3, none⟩) (Nat.le_refl _) _, rfl⟩
  · have sl := fun w => run_sliceT (P := Tryz.prog) 9 Tryz.underlying9 s (k : Int) (by omega) (by omega) w
    rw [Int.toNat_natCast] at sl
    have hdl : (s.drop k).length = s.length - k := List.length_drop
    rw [hq] at hpa
    cases hR : mrE false mt a (s.drop k) with
    | error n =>
      have hz := mr_err hR
      rw [show rdR mt s = .error n from by unfold rdR; rw [hq]; simp only [not_true_eq_false, if_false, Int.toNat_natCast]; rw [hR]]
      have hmr1 := fun W b hb hW bx => hmr false mt a (s.drop k) (by omega) W b hb hW bx
      rw [hR] at hmr1
      generalize s.drop k = t at *
      clear hmr hq hR
      go_enter Tryz.func14, Tryz.ntmps14
      go_wp2_with fail
      refine hpa.mono ?_
      rintro e w1 ⟨rfl, hb1⟩
      have bx1 := bx0.keep hb1
      have hB1 := hb0.trans (hb1.mono hb0.size)
      have hb2 : Below w1.heap.size w1 (w1.alloc (.cells #[.bool false, S mt, .int .i64 a, .slice none 0 0] 43)) := (Below.refl _ _).alloc (Nat.le_refl _) _
      have bxf := BoxAt.new w1 [.bool false, S mt, .int .i64 a, .slice none 0 0] 43
      have bx2 := bx1.keep hb2
      have hB2 := hB1.trans (hb2.mono hB1.size)
      have hm := hmr1 _ _ hB1.size hB2 bxf
      have hg1 := bx1.lt
      clear hpa hmr1 bx0 bx1 hb0 hb1 bxf
      go_wp2_with fail
      refine hm.mono ?_
      rintro e w3 ⟨hb3, rfl⟩
      have bx3 := bx2.kept hb3 hg1
      have hB3 := hB2.trans (hb3.mono hB1.size)
      have q0 := bx3.cell (j := 0) rfl
      have f0 := bx3.free 0
      have q1 := bx3.cell (j := 1) rfl
      have f1 := bx3.free 1
      have q2 := bx3.cell (j := 2) rfl
      have f2 := bx3.free 2
      have q3 := bx3.cell (j := 3) rfl
      have f3 := bx3.free 3
      clear bx2 hm hb3 hB2 hb2
      go_wp2_with fail
      refine bodyPost_ret (results_box3 (by rfl) _ _ w.heap.size [.int .i64 0, S [], .slice none 0 0, S []] _ (by rfl) ((((bx3.set 0 (.int .i64 0)).set 1 (S [])).set 2 (.slice none 0 0)).set 3 (S [])).all Tryz.underlying30 (by rfl) (by kernel_rfl)) rfl ?_
      exact ⟨(((hB3.setCell (p := ⟨w.heap.size, 0, none⟩) (Nat.le_refl _) _).setCell (p := ⟨w.heap.size, 1, none⟩) (Nat.le_refl _) _).setCell (p := ⟨w.heap.size, 2, none⟩) (Nat.le_refl _) _).setCell (p := ⟨w.heap.size, 3, none⟩) (Nat.le_refl _) _, rfl⟩
    | ok p =>
      obtain ⟨l, body, n⟩ := p
      have hnb := mr_bd _ _ _ _ hR
      rw [show rdR mt s = .ok (a, b, l, body, (k : Int) + n) from by unfold rdR; rw [hq]; simp only [not_true_eq_false, if_false, Int.toNat_natCast]; rw [hR]]
      have hmr1 := fun W b hb hW bx => hmr false mt a (s.drop k) (by omega) W b hb hW bx
      rw [hR] at hmr1
      generalize s.drop k = t at *
      clear hmr hq hR
      go_enter Tryz.func14, Tryz.ntmps14
      go_wp2_with fail
      refine hpa.mono ?_
      rintro e w1 ⟨rfl, hb1⟩
      have bx1 := bx0.keep hb1
      have hB1 := hb0.trans (hb1.mono hb0.size)
      have hb2 : Below w1.heap.size w1 (w1.alloc (.cells #[.bool false, S mt, .int .i64 a, .slice none 0 0] 43)) := (Below.refl _ _).alloc (Nat.le_refl _) _
      have bxf := BoxAt.new w1 [.bool false, S mt, .int .i64 a, .slice none 0 0] 43
      have bx2 := bx1.keep hb2
      have hB2 := hB1.trans (hb2.mono hB1.size)
      have hm := hmr1 _ _ hB1.size hB2 bxf
      have hg1 := bx1.lt
      clear hpa hmr1 bx0 hb0 hb1 bxf
      go_wp2_with fail
      refine hm.mono ?_
      rintro e w3 ⟨hb3, rfl, A, c, bxf3, hr3⟩
      have bx3 := bx2.kept hb3 hg1
      have hB3 := hB2.trans (hb3.mono hB1.size)
      have qf := bxf3.cell (j := 3) rfl
      have q0 := bx3.cell (j := 0) rfl
      have f0 := bx3.free 0
      have q1 := bx3.cell (j := 1) rfl
      have f1 := bx3.free 1
      have q2 := bx3.cell (j := 2) rfl
      have f2 := bx3.free 2
      have q3 := bx3.cell (j := 3) rfl
      have f3 := bx3.free 3
      clear bx2 bx1 hm hb3 hB2 hb2
      go_wp2_with fail
      refine bodyPost_ret (results_box3 (by rfl) _ _ w.heap.size [.int .i64 a, S b, .slice A l.length c, S body] _ (by rfl) ((((bx3.set 0 (.int .i64 a)).set 1 (S b)).set 2 (.slice A l.length c)).set 3 (S body)).all Tryz.underlying30 (by rfl) (by kernel_rfl)) rfl ?_
      refine ⟨(((hB3.setCell (p := ⟨w.heap.size, 0, none⟩) (Nat.le_refl _) _).setCell (p := ⟨w.heap.size, 1, none⟩) (Nat.le_refl _) _).setCell (p := ⟨w.heap.size, 2, none⟩) (Nat.le_refl _) _).setCell (p := ⟨w.heap.size, 3, none⟩) (Nat.le_refl _) _, A, c, rfl, ?_⟩
      have hlt : w.heap.size < w1.heap.size + 1 := by omega
      exact (own_boxF (own_boxF (own_boxF (own_boxF hr3 hlt 0 _) hlt 1 _) hlt 2 _) hlt 3 _).read
set_option maxHeartbeats 8000000 in
set_option maxRecDepth 100000 in
theorem mr_ref (mt : List UInt8) (s : List UInt8) (hs : s.length ≤ 1048576) (w : World) (hM : ML w) :
    Calls Tryz.prog 15 #[S mt, S s] w (RdOut w (rdR mt s)) := by
  have hb0 : Below w.heap.size w (w.alloc (.cells #[.int .i64 0, S [], .slice none 0 0, S []] 30)) := (Below.refl _ _).alloc (Nat.le_refl _) _
  have bx0 := BoxAt.new w [.int .i64 0, S [], .slice none 0 0, S []] 30
  have hpa := w_LineStatusOf s hs _ (hM.keep hb0)
  rcases st_cases s with ⟨a0, b0, k0, n, hq, hz⟩ | ⟨a, b, k, hq, hk⟩
  · rw [show rdR mt s = .error n from by unfold rdR; rw [hq]; simp only; rw [if_pos (by simpa using hz)]]
    rw [hq] at hpa
    go_enter Tryz.func15, Tryz.ntmps15
    go_wp2_with fail
    refine hpa.mono ?_
    rintro e w1 ⟨rfl, hb1⟩
    have bx1 := bx0.keep hb1
    have hB1 := hb0.trans (hb1.mono hb0.size)
    have q0 := bx1.cell (j := 0) rfl
    have f0 := bx1.free 0
    have q1 := bx1.cell (j := 1) rfl
    have f1 := bx1.free 1
    have q2 := bx1.cell (j := 2) rfl
    have f2 := bx1.free 2
    have q3 := bx1.cell (j := 3) rfl
    have f3 := bx1.free 3
    clear bx0 hb0 hpa hb1
    go_wp2_with fail
    refine bodyPost_ret (results_box3 (by rfl) _ _ w.heap.size [.int .i64 0, S [], .slice none 0 0, S []] _ (by rfl) ((((bx1.set 0 (.int .i64 0)).set 1 (S [])).set 2 (.slice none 0 0)).set 3 (S [])).all Tryz.underlying30 (by rfl) (by kernel_rfl)) rfl ?_
    exact ⟨(((hB1.setCell (p := ⟨w.heap.size, 0, none⟩) (Nat.le_refl _) _).setCell (p := ⟨w.heap.size, 1, none⟩) (Nat.le_refl _) _).setCell (p := ⟨w.heap.size, 2, none⟩) (Nat.le_refl _) _).setCell (p := ⟨w.heap.size, 3, none⟩) (Nat.le_refl _) _, rfl⟩
  · have sl := fun w => run_sliceT (P := Tryz.prog) 9 Tryz.underlying9 s (k : Int) (by omega) (by omega) w
    rw [Int.toNat_natCast] at sl
    have hdl : (s.drop k).length = s.length - k := List.length_drop
    rw [hq] at hpa
    have hmo := fun W hMW => mr_of (s.drop k) (by omega) false mt a W hMW
    cases hR : mrE false mt a (s.drop k) with
    | error n =>
      have hz := mr_err hR
      rw [show rdR mt s = .error n from by unfold rdR; rw [hq]; simp only [not_true_eq_false, if_false, Int.toNat_natCast]; rw [hR]]
      rw [hR] at hmo
      generalize s.drop k = t at *
      clear hq hR
      go_enter Tryz.func15, Tryz.ntmps15
      go_wp2_with fail
      refine hpa.mono ?_
      rintro e w1 ⟨rfl, hb1⟩
      have bx1 := bx0.keep hb1
      have hB1 := hb0.trans (hb1.mono hb0.size)
      have hm := hmo w1 (hM.keep hB1)
      clear hpa hmo bx0 hb0 hb1
      go_wp2_with fail
      refine hm.mono ?_
      rintro e w3 ⟨hb3, rfl⟩
      have bx3 := bx1.keep hb3
      have hB3 := hB1.trans (hb3.mono hB1.size)
      have q0 := bx3.cell (j := 0) rfl
      have f0 := bx3.free 0
      have q1 := bx3.cell (j := 1) rfl
      have f1 := bx3.free 1
      have q2 := bx3.cell (j := 2) rfl
      have f2 := bx3.free 2
      have q3 := bx3.cell (j := 3) rfl
      have f3 := bx3.free 3
      clear bx1 hm hb3
      go_wp2_with fail
      refine bodyPost_ret (results_box3 (by rfl) _ _ w.heap.size [.int .i64 0, S [], .slice none 0 0, S []] _ (by rfl) ((((bx3.set 0 (.int .i64 0)).set 1 (S [])).set 2 (.slice none 0 0)).set 3 (S [])).all Tryz.underlying30 (by rfl) (by kernel_rfl)) rfl ?_
      exact ⟨(((hB3.setCell (p := ⟨w.heap.size, 0, none⟩) (Nat.le_refl _) _).setCell (p := ⟨w.heap.size, 1, none⟩) (Nat.le_refl _) _).setCell (p := ⟨w.heap.size, 2, none⟩) (Nat.le_refl _) _).setCell (p := ⟨w.heap.size, 3, none⟩) (Nat.le_refl _) _, rfl⟩
    | ok p =>
      obtain ⟨l, body, n⟩ := p
      have hnb := mr_bd _ _ _ _ hR
      rw [show rdR mt s = .ok (a, b, l, body, (k : Int) + n) from by unfold rdR; rw [hq]; simp only [not_true_eq_false, if_false, Int.toNat_natCast]; rw [hR]]
      rw [hR] at hmo
      generalize s.drop k = t at *
      clear hq hR
      go_enter Tryz.func15, Tryz.ntmps15
      go_wp2_with fail
      refine hpa.mono ?_
      rintro e w1 ⟨rfl, hb1⟩
      have bx1 := bx0.keep hb1
      have hB1 := hb0.trans (hb1.mono hb0.size)
      have hm := hmo w1 (hM.keep hB1)
      have hg1 := bx1.lt
      clear hpa hmo bx0 hb0 hb1
      go_wp2_with fail
      refine hm.mono ?_
      rintro e w3 ⟨hb3, A, c, rfl, hr3⟩
      have bx3 := bx1.keep hb3
      have hB3 := hB1.trans (hb3.mono hB1.size)
      have q0 := bx3.cell (j := 0) rfl
      have f0 := bx3.free 0
      have q1 := bx3.cell (j := 1) rfl
      have f1 := bx3.free 1
      have q2 := bx3.cell (j := 2) rfl
      have f2 := bx3.free 2
      have q3 := bx3.cell (j := 3) rfl
      have f3 := bx3.free 3
      clear bx1 hm hb3
      go_wp2_with fail
      refine bodyPost_ret (results_box3 (by rfl) _ _ w.heap.size [.int .i64 a, S b, .slice A l.length c, S body] _ (by rfl) ((((bx3.set 0 (.int .i64 a)).set 1 (S b)).set 2 (.slice A l.length c)).set 3 (S body)).all Tryz.underlying30 (by rfl) (by kernel_rfl)) rfl ?_
      refine ⟨(((hB3.setCell (p := ⟨w.heap.size, 0, none⟩) (Nat.le_refl _) _).setCell (p := ⟨w.heap.size, 1, none⟩) (Nat.le_refl _) _).setCell (p := ⟨w.heap.size, 2, none⟩) (Nat.le_refl _) _).setCell (p := ⟨w.heap.size, 3, none⟩) (Nat.le_refl _) _, A, c, rfl, ?_⟩
      have hlt : w.heap.size < w1.heap.size := hg1
      exact (own_boxF (own_boxF (own_boxF (own_boxF hr3 hlt 0 _) hlt 1 _) hlt 2 _) hlt 3 _).read
/-- what is told, flat -/
def rdF (R : Except Int (Int × List UInt8 × List Fld × List UInt8 × Int)) : Int × List UInt8 × List Fld × List UInt8 × Int × Int := match R with
  | .error n => (0, [], [], [], 0, n)
  | .ok (a, b, l, body, n) => (a, b, l, body, n, 0)
theorem RdOut.flat {W W' : World} {R : Except Int (Int × List UInt8 × List Fld × List UInt8 × Int)} {e : Ending} (h : RdOut W R e W') {a : Int} {b : List UInt8} {l : List Fld} {body : List UInt8} {n er : Int} (hf : rdF R = (a, b, l, body, n, er)) :
    ∃ A c, e = .returned (.tuple #[.agg #[.int .i64 a, S b, .slice A l.length c, S body], .int .i64 n, .int .i64 er]) ∧ ReadL encF W' W'.heap.size A l ∧ Below W.heap.size W W' := by
  obtain ⟨hb, h⟩ := h
  cases R with
  | error m =>
    simp only [rdF, Prod.mk.injEq] at hf
    obtain ⟨rfl, rfl, rfl, rfl, rfl, rfl⟩ := hf
    exact ⟨none, 0, h, ReadL.nil, hb⟩
  | ok p =>
    obtain ⟨a', b', l', body', n'⟩ := p
    simp only [rdF, Prod.mk.injEq] at hf
    obtain ⟨rfl, rfl, rfl, rfl, rfl, rfl⟩ := hf
    obtain ⟨A, c, h1, h2⟩ := h
    exact ⟨A, c, h1, h2, hb⟩
theorem rd_fl (mt : List UInt8) (s : List UInt8) : (rdF (rdR mt s)).2.2.1.length ≤ s.length := by
  have key : ∀ (req : Bool) (m : List UInt8) (code : Int) (t : List UInt8) (l : List Fld) (b : List UInt8) (n : Int), mrE req m code t = .ok (l, b, n) → l.length ≤ t.length := by
    intro req m code t l b n h
    unfold mrE at h
    cases hf : fpE t with
    | error e => rw [hf] at h; cases h
    | ok p =>
      obtain ⟨l', k⟩ := p
      have hs := fpE_sum hf
      rw [hf] at h
      simp only at h
      cases hb : mrB t.length k (kindE req m code l') (t.drop k) with
      | error e => rw [hb] at h; cases h
      | ok q =>
        rw [hb] at h
        injection h with h
        injection h with h _
        subst h
        have : ∀ l : List Fld, l.length ≤ (l.map (fun f => f.1.length + f.2.length + 3)).sum := fun l => by
          induction l with
          | nil => simp
          | cons a l ih => simp only [List.map_cons, List.sum_cons, List.length_cons]; omega
        exact Nat.le_trans (this l') hs
  unfold rdR
  rcases st_cases s with ⟨a0, b0, k0, n, hq, hz⟩ | ⟨a, b, k, hq, hk⟩
  · rw [hq]; simp only; rw [if_pos (by simpa using hz)]; simp [rdF]
  · rw [hq]
    simp only [not_true_eq_false, if_false, Int.toNat_natCast]
    cases hR : mrE false mt a (s.drop k) with
    | error n => simp [rdF]
    | ok p =>
      obtain ⟨l, body, n⟩ := p
      have := key _ _ _ _ _ _ _ hR
      rw [List.length_drop] at this
      simp only [rdF]
      omega
set_option maxHeartbeats 8000000 in
set_option maxRecDepth 100000 in
theorem mr_same (a : Int) (b : List UInt8) (l : List Fld) (body : List UInt8) (hl : l.length ≤ 140737488351232) (A A' : Option Addr) (c c' : Nat) (w : World) (h : ReadL encF w w.heap.size A l) (h' : ReadL encF w w.heap.size A' l) :
    Calls Tryz.prog 16 #[.agg #[.int .i64 a, S b, .slice A l.length c, S body], .agg #[.int .i64 a, S b, .slice A' l.length c', S body]] w fun e w' => e = .returned (.bool true) ∧ Below w.heap.size w w' := by
  have b1 : Below w.heap.size w (w.alloc (.cells #[.int .i64 a, S b, .slice A l.length c, S body] 30)) := (Below.refl _ _).alloc (Nat.le_refl _) _
  have b2 : Below w.heap.size w ((w.alloc (.cells #[.int .i64 a, S b, .slice A l.length c, S body] 30)).alloc (.cells #[.int .i64 a, S b, .slice A' l.length c', S body] 30)) := b1.alloc b1.size _
  have x1 := (BoxAt.new w [.int .i64 a, S b, .slice A l.length c, S body] 30).alloc (.cells #[.int .i64 a, S b, .slice A' l.length c', S body] 30)
  have x2 := BoxAt.new (w.alloc (.cells #[.int .i64 a, S b, .slice A l.length c, S body] 30)) [.int .i64 a, S b, .slice A' l.length c', S body] 30
  rw [World.size_alloc] at x2
  have he := w_Eq_texts_Field l hl A A' c c' _ _ _ (Nat.le_refl _) (Nat.le_refl _) ((h.below b2 (Nat.le_refl _)).more b2.size) ((h'.below b2 (Nat.le_refl _)).more b2.size)
  have c0 := x1.cell (j := 0) rfl
  have c1 := x1.cell (j := 1) rfl
  have c2 := x1.cell (j := 2) rfl
  have c3 := x1.cell (j := 3) rfl
  have d0 := x2.cell (j := 0) rfl
  have d1 := x2.cell (j := 1) rfl
  have d2 := x2.cell (j := 2) rfl
  have d3 := x2.cell (j := 3) rfl
  go_enter Tryz.func16, Tryz.ntmps16
  go_wp2_with (go_at_call 27; refine he.mono ?_; rintro e w3 ⟨rfl, hb3⟩; have y1 := x1.keep hb3; have y2 := x2.keep hb3; have e3 := y1.cell (j := 3) rfl; have g3 := y2.cell (j := 3) rfl)
  go_ret
  exact ⟨by simp, b2.trans (hb3.mono b2.size)⟩
set_option maxHeartbeats 8000000 in
set_option maxRecDepth 100000 in
theorem mr_lawS (mt : List UInt8) (s : List UInt8) (hs : s.length ≤ 1048576) (w : World) (hM : ML w) (hE : EV w) (hP : PW w) :
    Calls Tryz.prog 6 #[S mt, S s] w fun e w' => e = .returned (.bool true) ∧ Below w.heap.size w w' := by
  have hp := mr_prog mt s hs w hM hE hP
  have hr := fun W hMW => mr_ref mt s hs W hMW
  have hl := rd_fl mt s
  obtain ⟨F, hF⟩ : ∃ F, rdF (rdR mt s) = F := ⟨_, rfl⟩
  rw [hF] at hl
  obtain ⟨a, b, l, body, n, er⟩ := F
  simp only at hl
  have HF := Lib.hid hF
  clear hF hE hP
  go_enter Tryz.func6, Tryz.ntmps6
  go_wp2_with fail
  refine hp.mono ?_
  intro e w1 hp1
  obtain ⟨A, c, rfl, hra, hb1⟩ := hp1.flat HF.out
  clear hp hp1
  have bxa := BoxAt.new w1 [.int .i64 a, S b, .slice A l.length c, S body] 30
  have hBa : Below w1.heap.size w1 (w1.alloc (.cells #[.int .i64 a, S b, .slice A l.length c, S body] 30)) := (Below.refl w1.heap.size w1).alloc (Nat.le_refl _) _
  have hra2 := (hra.below hBa (Nat.le_refl _)).more hBa.size
  have hBw := hb1.trans (hBa.mono hb1.size)
  have h2 := hr _ (hM.keep hBw)
  have hgl := bxa.lt
  go_wp2_with fail
  refine h2.mono ?_
  intro e w3 hp3
  obtain ⟨A', c', rfl, hrb, hb3⟩ := hp3.flat HF.out
  clear h2 hp3 hr
  have bxa3 := bxa.keep hb3
  have hra3 := (hra2.below hb3 (Nat.le_refl _)).more hb3.size
  have hB3 := hBw.trans (hb3.mono hBw.size)
  have hg3 := bxa3.lt
  clear bxa hBa hra2 hBw hb3 hra
  generalize w1.heap.size = g1 at *
  have bxb := BoxAt.new w3 [.int .i64 a, S b, .slice A' l.length c', S body] 30
  have hBb : Below w3.heap.size w3 (w3.alloc (.cells #[.int .i64 a, S b, .slice A' l.length c', S body] 30)) := (Below.refl w3.heap.size w3).alloc (Nat.le_refl _) _
  have bxa4 := bxa3.keep hBb
  have k0 := bxa4.cell (j := 0) rfl
  have k1 := bxa4.cell (j := 1) rfl
  have k2 := bxa4.cell (j := 2) rfl
  have k3 := bxa4.cell (j := 3) rfl
  have m0 := bxb.cell (j := 0) rfl
  have m1 := bxb.cell (j := 1) rfl
  have m2 := bxb.cell (j := 2) rfl
  have m3 := bxb.cell (j := 3) rfl
  have hsm := mr_same a b l body (by omega) A A' c c' _ ((hra3.below hBb (Nat.le_refl _)).more hBb.size) ((hrb.below hBb (Nat.le_refl _)).more hBb.size)
  have hB4 := hB3.trans (hBb.mono hB3.size)
  go_wp2_with (go_at_call 16; refine hsm.mono ?_; rintro e w5 ⟨rfl, hb5⟩)
  go_ret
  exact ⟨by simp, hB4.trans (hb5.mono hB4.size)⟩
end Go.Proofs.YtfgjbflddabdcaaGreatDoor
