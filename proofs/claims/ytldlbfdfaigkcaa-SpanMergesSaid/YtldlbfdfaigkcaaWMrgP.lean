/- Walk: span.Merge, under what the sort says. -/
import Derived.Test.YtldlbfdfaigkcaaWMrgS
import Derived.BigQuiet
namespace Go.Larder
open Go.RowKit
set_option linter.unusedVariables false
set_option linter.unusedSimpArgs false
theorem OwnL.set2_II {w : World} {base : Nat} {e : TypeId} {g c : Nat} {l : List Iv} (h : OwnL encII w base e (some ⟨g, 0, none⟩) c l) {j : Nat} {x1 x2 : Int} (hj : l[j]? = some (x1, x2)) (v : Int) :
    OwnL encII (w.setCell ⟨g, j * 2 + 1, none⟩ (.int .i64 v)) base e (some ⟨g, 0, none⟩) c (l.set j (x1, v)) := by
  have h1 := (World.ownsRow.stored h (j * 2 + 1) (.int .i64 v)).1
  unfold OwnL
  rw [flat_II, List.length_set]
  have h2 : (l.flatMap encII.enc)[j * 2]? = some (.int .i64 x1) := encII.get_flatMap l j _ 0 _ hj rfl
  have h3 : (l.flatMap encII.enc).set (j * 2) (.int .i64 x1) = l.flatMap encII.enc := by
    obtain ⟨hlt, he⟩ := List.getElem?_eq_some_iff.1 h2
    rw [← he]
    exact List.set_getElem_self hlt
  rw [h3]
  exact h1
theorem below_drewN {B : Nat} {a w : World} (h : Below B a w) (n : Nat) : Below B a (w.drewN n) := ⟨h.os, h.tape, h.output, h.size, h.block⟩
theorem wrap_nat {n k m : Nat} (h : n + 1 ≤ k) (hk : k ≤ m) (hm : m * 16 ≤ 140737488351232) : wrap64 (n : Int) = n := IntWalk.wrap64_in _ ⟨by omega, by omega⟩
theorem pStep_last {ho : List Iv} {t s : Iv} : pStep (ho ++ [t]) s = if s.1 ≤ t.2 then ho ++ [(t.1, max t.2 s.2)] else ho ++ [t] ++ [s] := by
  unfold pStep; simp
theorem set_last {α : Type} (ho : List α) (t t' : α) : (ho ++ [t]).set ho.length t' = ho ++ [t'] := by simp
end Go.Larder
namespace Go.Proofs.Ytldlbfdfaigkcaa
open Go.RowKit Go.Larder
set_option linter.unusedVariables false
set_option linter.unusedSimpArgs false
def SortSays : Prop := ∀ (l : List Iv) (hl : l.length * 16 ≤ 140737488351232) (B : Nat) (A : Option Addr) (c : Nat) (w : World) (hB : B ≤ w.heap.size) (ho : OwnI w B A c l),
  Calls Try.prog 33 #[.slice A l.length c, .func (.func 34) #[] #[]] w fun e w' => e = .returned (.tuple #[]) ∧ (∃ m, m.length = l.length ∧ m.Perm l ∧ (m.Pairwise fun a b => a.1 ≤ b.1) ∧ OwnI w' B A c m) ∧ Below B w w'
set_option maxHeartbeats 4000000 in
set_option maxRecDepth 100000 in
theorem w_Merge (hsort : SortSays) (l : List Iv) (hl : l.length * 16 ≤ 140737488351232) (A : Option Addr) (c : Nat) (w : World) (hr : ReadL encII w w.heap.size A l) :
    Calls Try.prog 20 #[.slice A l.length c] w fun e w' => ∃ A' c', e = .returned (.slice A' (l.foldl rStep []).length c') ∧ OwnI w' w.heap.size A' c' (l.foldl rStep []) ∧ Below w.heap.size w w' := by
  obtain ⟨R, hR⟩ : ∃ R, l.foldl rStep [] = R := ⟨_, rfl⟩
  rw [hR]
  have hdl : (mDrop l).length * 16 ≤ 140737488351232 := by have : (mDrop l).length ≤ l.length := List.length_filter_le _ _; omega
  have hlaw : ∀ m : List Iv, m.Perm (mDrop l) → (m.Pairwise fun a b => a.1 ≤ b.1) → m.foldl pStep [] = R := fun m hp hs => by
    rw [← hR]
    refine merge_law ?_ hs
    have : l.filter isIv = mDrop l := by
      unfold mDrop
      congr 1
      funext s
      unfold isIv mHit
      rcases Int.lt_or_le s.1 s.2 with h | h
      · simp [h]
      · simp [h]
    rw [this]
    exact hp
  have HR := Lib.hid hR
  clear hR
  go_enter Try.func20, Try.ntmps20
  go_wp2_with (first
    | (go_at_call 31; refine (w_mclone l hl _ c _ hr).mono ?_; rintro e w1 ⟨⟨A1, c1, rfl, ho1⟩, hb1⟩)
    | (go_at_call 30; refine (w_mdelete l hl w.heap.size _ c1 _ hb1.size ho1).mono ?_; rintro e w2 ⟨⟨A2, c2, rfl, ho2⟩, hb2⟩)
    | (go_at_call 33; refine (hsort (mDrop l) hdl w.heap.size _ c2 _ (Nat.le_trans hb1.size hb2.size) ho2).mono ?_; rintro e w3 ⟨rfl, ⟨m, hml, hperm, hsrt, ho3⟩, hb3⟩))
  have hq := hlaw m hperm hsrt
  have hmd : m.length * 16 ≤ 140737488351232 := by rw [hml]; exact hdl
  rw [← hml]
  have hB3 : Below w.heap.size w w3 := (hb1.trans hb2).trans hb3
  have hB3s := hB3.size
  have hread := ho3.read
  have Hq0 := Lib.hid hq
  clear hlaw hperm hsrt hq hb1 hb2 hb3 ho1 ho2 hr hdl hml hsort HR
  go_loopw [3, 14] (fun o i' wr => ∃ (k : Nat) (out : List Iv) (A1 : Option Addr) (c1 : Nat), i' = .int .i64 k ∧ o = .slice A1 out.length c1 ∧ k ≤ m.length ∧ out.length ≤ k ∧ OwnI wr w3.heap.size A1 c1 out ∧ Below w3.heap.size w3 wr ∧ Hid ((m.drop k).foldl pStep out = R)) (fun _ i' _ => m.length - (intOf i').toNat)
  case atStart => exact ⟨0, [], none, 0, rfl, rfl, by omega, by simp, OwnL.nil _ _ _, Below.refl _ _, Hq0⟩
  case round =>
    obtain ⟨k, out, A1, c1, rfl, rfl, hk, hok, hown, hbel, heq⟩ := hrel
    have hbs := hbel.size
    by_cases hlt : k < m.length
    · obtain ⟨⟨x, y⟩, hx, hs⟩ := drop_step hlt
      obtain ⟨g, off, hA2, hgb, hc0, hc1⟩ := (hread.below hbel (Nat.le_refl _)).at_II hx
      simp only at hc0 hc1
      subst hA2
      have heq2 := heq.out
      rw [hs, List.foldl_cons] at heq2
      have hB1 := hbel.alloc hbs (.cells #[.int .i64 x, .int .i64 y] 52)
      have bx := BoxAt.new wr [.int .i64 x, .int .i64 y] 52
      have hown1 := hown.alloc (.cells #[.int .i64 x, .int .i64 y] 52)
      have p0 := bx.cell (j := 0) rfl
      have p1 := bx.cell (j := 1) rfl
      rcases nil_or_snoc out with rfl | ⟨ho, ⟨t1, t2⟩, rfl⟩
      · have Hq := Lib.hid (show (m.drop (k + 1)).foldl pStep ([] ++ [(x, y)]) = R from heq2)
        clear heq2 hs hx heq
        go_wp2_with fail
        go_quiet (fail)
        go_wp2_with (at_builtin
                     refine wpList_appF (w := (wr.alloc (.cells #[.int .i64 x, .int .i64 y] 52)).drewN nq) encII sl_iv [(x, y)] rfl _ _ rfl rfl (hown1.drewN nq) #[.int .i64 x, .int .i64 y] rfl 0 rfl (by first | rfl | (simp [go_sem]; done)) (by simp) (by simp [maxLen]) (by simp; omega) ?_
                     intro g' c'' w5 hown5 hg5 hk5 hb5)
        try simp only [undef]
        go_roundw
        case rel => exact ⟨k + 1, [] ++ [(x, y)], _, _, by go_num, rfl, by omega, by simp, hown5, (below_drewN hB1 nq).trans hb5, Hq⟩
        case measure => simp [intOf]; omega
      · rw [pStep_last] at heq2
        have hfr := hown.some_ (by simp)
        obtain ⟨g1, rfl, hg1, hg2⟩ := hfr
        have hlast : (ho ++ [(t1, t2)])[ho.length]? = some (t1, t2) := by simp
        obtain ⟨q0, q1⟩ := hown1.get_II hlast
        have f0 := hown1.frozen (ho.length * 2 + 1)
        have hlen : (ho ++ [(t1, t2)]).length = ho.length + 1 := by simp
        simp only at q0 q1
        have Hlen := Lib.hid hlen
        have hok2 : ho.length + 1 ≤ k := by rw [hlen] at hok; exact hok
        have hwr : IntKind.i64.wrap (ho.length : Int) = ho.length := IntWalk.i64_in _ ⟨by omega, by omega⟩
        have hge : (0 : Int) ≤ (ho.length : Int) := Int.natCast_nonneg _
        by_cases hc : x ≤ t2
        · have Hq := Lib.hid (show (m.drop (k + 1)).foldl pStep (ho ++ [(t1, max t2 y)]) = R from by rw [← heq2, if_pos hc])
          clear heq2 hs hx heq
          have hcb : decide (x ≤ t2) = true := by simpa using hc
          rw [hlen] at hok
          clear hlen
          go_wp2_with fail
          go_quiet (fail)
          have r0 : ((wr.alloc (.cells #[.int .i64 x, .int .i64 y] 52)).drewN nq).cell? ⟨wr.heap.size, 1, none⟩ = some (.int .i64 y) := p1
          have r1 : ((wr.alloc (.cells #[.int .i64 x, .int .i64 y] 52)).drewN nq).cell? ⟨g1, ho.length * 2 + 1, none⟩ = some (.int .i64 t2) := q1
          have r2 : ((wr.alloc (.cells #[.int .i64 x, .int .i64 y] 52)).drewN nq).frozen? ⟨g1, ho.length * 2 + 1, none⟩ = false := f0
          have hownN := hown1.drewN nq
          have hBN := below_drewN hB1 nq
          go_wp2_with fail
          generalize (wr.alloc (.cells #[.int .i64 x, .int .i64 y] 52)).drewN nq = W0 at *
          refine wp_region_still_tail 12 (by kernel_rfl) (by kernel_rfl) ?_
          change wpStill _ _ W0.drew _ _ _
          have z0 : W0.drew.cell? _ = _ := r0
          have z1 : W0.drew.cell? _ = _ := r1
          have z2 : W0.drew.frozen? _ = _ := r2
          have hownD := hownN.drew
          have hBD := hBN.drew
          generalize hw2 : W0.drew = w2 at *
          have hlt9 : (ho.length : Int) < (ho.length : Int) + 1 := by omega
          simp only [List.take_succ_cons, List.take_zero, List.drop_succ_cons, List.drop_zero]
          repeat
            refine wpStill_step (fun K hK => ?_)
            go_simp
            try (simp only [z0, z1, hlt9, if_true]; go_simp)
            refine hK _ ?_
            clear hK K
          refine wpStill_nil ?_
          change wpList _ _ _ _ _ W0.drew
          rw [hw2]
          go_wp2_with fail
          try simp only [undef]
          go_roundw
          case rel => exact ⟨k + 1, (ho ++ [(t1, t2)]).set ho.length (t1, max t2 y), _, c1, by go_num, by simp, by omega, by simp; omega, OwnL.set2_II hownD hlast (max t2 y), hBD.setCell (p := ⟨g1, ho.length * 2 + 1, none⟩) hg1 _, by rw [set_last]; exact Hq⟩
          case measure => simp [intOf]; omega
        · have Hq := Lib.hid (show (m.drop (k + 1)).foldl pStep (ho ++ [(t1, t2)] ++ [(x, y)]) = R from by rw [← heq2, if_neg hc])
          clear heq2 hs hx heq
          have hcb : decide (x ≤ t2) = false := by simpa using hc
          rw [hlen] at hok
          clear hlen
          go_wp2_with fail
          go_quiet (fail)
          go_wp2_with (at_builtin
                       refine wpList_appF (w := (wr.alloc (.cells #[.int .i64 x, .int .i64 y] 52)).drewN nq) encII sl_iv [(x, y)] rfl _ _ rfl (by rw [Hlen.out]; rfl) (hown1.drewN nq) #[.int .i64 x, .int .i64 y] rfl 0 rfl (by first | rfl | (simp [go_sem]; done)) (by rw [Hlen.out]; omega) (by rw [Hlen.out]; simp only [maxLen]; omega) (by simp; omega) ?_
                       intro g' c'' w5 hown5 hg5 hk5 hb5)
          try simp only [undef]
          go_roundw
          case rel => exact ⟨k + 1, ho ++ [(t1, t2)] ++ [(x, y)], _, _, by go_num, by simp, by omega, by simp; omega, hown5, (below_drewN hB1 nq).trans hb5, Hq⟩
          case measure => simp [intOf]; omega
    · rw [drop_end hlt] at heq
      have Hq := Lib.hid heq.out
      clear heq
      go_wp2_with fail
      go_ret
      have e : out = R := Hq.out
      subst e
      exact ⟨A1, c1, rfl, hown.base_le hB3s, hB3.trans (hbel.mono hB3s)⟩
end Go.Proofs.Ytldlbfdfaigkcaa
