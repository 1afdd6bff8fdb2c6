/- Walk: the reference's SpanMerge. -/
import Derived.Test.YtldlbfdfaigkcaaChecked
import Derived.Test.YtldlbfdfaigkcaaSpecMrg
import Derived.Test.YtldlbfdfaigkcaaAppF
import Derived.Test.YtldlbfdfaigkcaaBoxAt
namespace Go.Proofs.Ytldlbfdfaigkcaa
open Go.RowKit Go.Larder
set_option linter.unusedVariables false
set_option linter.unusedSimpArgs false
theorem sl_iv : SlT Try.prog 49 52 2 16 := SlT.mk' (z := .agg #[.int .i64 0, .int .i64 0]) Try.underlying49 (by kernel_rfl) rfl
abbrev OwnI (w : World) (base : Nat) (A : Option Addr) (c : Nat) (l : List Iv) : Prop := OwnL encII w base 52 A c l
/-- Two rows of the call's own, apart. -/
def TwoI (w : World) (base : Nat) (A1 : Option Addr) (c1 : Nat) (l1 : List Iv) (A2 : Option Addr) (c2 : Nat) (l2 : List Iv) : Prop := OwnI w base A1 c1 l1 ∧ OwnI w base A2 c2 l2 ∧ ∀ g, A1 = some g → A2 ≠ some g
theorem TwoI.keep {w w' : World} {base : Nat} {A1 : Option Addr} {c1 : Nat} {l1 : List Iv} {A2 : Option Addr} {c2 : Nat} {l2 : List Iv} (h : TwoI w base A1 c1 l1 A2 c2 l2) (hk : ∀ b, base ≤ b → b < w.heap.size → w'.heap[b]? = w.heap[b]?) : TwoI w' base A1 c1 l1 A2 c2 l2 :=
  ⟨h.1.keep fun g hg => hk _ (h.1.lt g hg).1 (h.1.lt g hg).2, h.2.1.keep fun g hg => hk _ (h.2.1.lt g hg).1 (h.2.1.lt g hg).2, h.2.2⟩
theorem TwoI.left {w w' : World} {base : Nat} {A1 : Option Addr} {c1 : Nat} {l1 : List Iv} {A2 : Option Addr} {c2 : Nat} {l2 l1' : List Iv} {g c1' : Nat} (h : TwoI w base A1 c1 l1 A2 c2 l2) (ho : OwnI w' base (some ⟨g, 0, none⟩) c1' l1') (hg : A1 = some ⟨g, 0, none⟩ ∨ w.heap.size < g) (hk : ∀ b, b < w.heap.size → A1 ≠ some ⟨b, 0, none⟩ → w'.heap[b]? = w.heap[b]?) : TwoI w' base (some ⟨g, 0, none⟩) c1' l1' A2 c2 l2 := by
  obtain ⟨h1, h2, h3⟩ := h
  refine ⟨ho, h2.keep fun a ha => ?_, fun a ha hb => ?_⟩
  · rcases h2.form with ⟨hn, _⟩ | ⟨b, hb, _, hlt⟩
    · rw [hn] at ha; cases ha
    · rw [hb] at ha; injection ha with ha; subst ha
      exact hk b hlt (fun h => h3 _ h hb)
  · injection ha with ha; subst ha
    rcases hg with hg | hg
    · exact h3 _ hg hb
    · have := (h2.lt _ hb).2
      have : g < w.heap.size := this
      omega
theorem TwoI.swap {w : World} {base : Nat} {A1 : Option Addr} {c1 : Nat} {l1 : List Iv} {A2 : Option Addr} {c2 : Nat} {l2 : List Iv} (h : TwoI w base A1 c1 l1 A2 c2 l2) : TwoI w base A2 c2 l2 A1 c1 l1 := ⟨h.2.1, h.1, fun g h1 h2 => h.2.2 g h2 h1⟩
theorem rIn_len : ∀ (l A : List Iv) (s : Iv) (B : List Iv), (rIn l A s B).1.length + (rIn l A s B).2.2.length ≤ l.length + A.length + B.length
  | [], A, s, B => by simp [rIn]
  | t :: l, A, s, B => by
    unfold rIn
    split
    · have := rIn_len l (A ++ [t]) s B; simp only [List.length_append, List.length_cons, List.length_nil] at *; omega
    · split
      · have := rIn_len l A s (B ++ [t]); simp only [List.length_append, List.length_cons, List.length_nil] at *; omega
      · have := rIn_len l A (min s.1 t.1, max s.2 t.2) B; simp only [List.length_cons] at *; omega
set_option maxHeartbeats 4000000 in
theorem w_SpanMergeR (l : List Iv) (hl : l.length * 16 ≤ 140737488351232) (A : Option Addr) (c : Nat) (w : World) (hr : ReadL encII w w.heap.size A l) :
    Calls Try.prog 21 #[.slice A l.length c] w fun e w' => ∃ A' c', e = .returned (.slice A' (l.foldl rStep []).length c') ∧ OwnI w' w.heap.size A' c' (l.foldl rStep []) ∧ Below w.heap.size w w' := by
  obtain ⟨R, hR⟩ : ∃ R, l.foldl rStep [] = R := ⟨_, rfl⟩
  rw [hR]
  have HR := Lib.hid hR
  clear hR
  go_enter Try.func21, Try.ntmps21
  go_wp2_with fail
  go_loopw [3, 12] (fun o i' wr => ∃ (k : Nat) (out : List Iv) (A1 : Option Addr) (c1 : Nat), i' = .int .i64 k ∧ o = .slice A1 out.length c1 ∧ k ≤ l.length ∧ out.length ≤ k ∧ OwnI wr w.heap.size A1 c1 out ∧ Below w.heap.size w wr ∧ Hid ((l.drop k).foldl rStep out = R)) (fun _ i' _ => l.length - (intOf i').toNat)
  case atStart => exact ⟨0, [], none, 0, rfl, rfl, by omega, by simp, OwnL.nil _ _ _, Below.refl _ _, HR⟩
  case round =>
    obtain ⟨k, out, A1, c1, rfl, rfl, hk, hok, hown, hbel, heq⟩ := hrel
    obtain ⟨wo, rfl⟩ : ∃ wo : World, wo = wr := ⟨_, rfl⟩
    have hbs := hbel.size
    by_cases hlt : k < l.length
    · obtain ⟨⟨x, y⟩, hx, hs⟩ := drop_step hlt
      obtain ⟨g, off, rfl, hgb, hc0, hc1⟩ := (hr.below hbel (Nat.le_refl _)).at_II hx
      simp only at hc0 hc1
      have heq2 := heq.out
      rw [hs, List.foldl_cons] at heq2
      have hB1 := hbel.alloc hbs (.cells #[.int .i64 x, .int .i64 y] 52)
      have bx := BoxAt.new wo [.int .i64 x, .int .i64 y] 52
      have hown1 := hown.alloc (.cells #[.int .i64 x, .int .i64 y] 52)
      by_cases hyx : y ≤ x
      · have Hq := Lib.hid (show (l.drop (k + 1)).foldl rStep out = R from by rw [← heq2]; unfold rStep; rw [if_pos hyx])
        clear heq2 hs hx heq
        go_wp2_with fail
        go_roundw
        case rel => exact ⟨k + 1, out, A1, c1, by go_num, rfl, by omega, by omega, hown1, hB1, Hq⟩
        case measure => simp [intOf]; omega
      · have hst : rStep out (x, y) = (rIn out [] (x, y) []).1 ++ [(rIn out [] (x, y) []).2.1] ++ (rIn out [] (x, y) []).2.2 := by unfold rStep; rw [if_neg hyx]
        rw [hst] at heq2
        have Hq := Lib.hid heq2
        clear heq2 hst hs hx heq
        have hout := hown.read
        have hA := hown.form
        have hread0 : ReadL encII (wo.alloc (.cells #[.int .i64 x, .int .i64 y] 52)) wo.heap.size A1 out := hout.alloc (Nat.le_refl _) _
        have hsz : (wo.alloc (.cells #[.int .i64 x, .int .i64 y] 52)).heap.size = wo.heap.size + 1 := by simp
        go_wp2_with fail
        go_loopw [6, 7, 23] (fun a' b' j' wr => ∃ (j : Nat) (A2 : Option Addr) (c2 : Nat) (la : List Iv) (A3 : Option Addr) (c3 : Nat) (lb : List Iv) (s1 s2 : Int), j' = .int .i64 j ∧ a' = .slice A2 la.length c2 ∧ b' = .slice A3 lb.length c3 ∧ j ≤ out.length ∧ la.length + lb.length ≤ j ∧ BoxAt wr wo.heap.size 52 [.int .i64 s1, .int .i64 s2] ∧ TwoI wr (wo.heap.size + 1) A2 c2 la A3 c3 lb ∧ Below wo.heap.size wo wr ∧ wo.heap.size + 1 ≤ wr.heap.size ∧ Hid (rIn (out.drop j) la (s1, s2) lb = rIn out [] (x, y) [])) (fun _ _ j' _ => out.length - (intOf j').toNat)
        case atStart => exact ⟨0, none, 0, [], none, 0, [], x, y, rfl, rfl, rfl, by omega, by simp, bx, ⟨OwnL.nil _ _ _, OwnL.nil _ _ _, fun g h => by cases h⟩, (Below.refl _ _).alloc (Nat.le_refl _) _, by rw [hsz]; omega, Lib.hid rfl⟩
        case round =>
          obtain ⟨j, A2, c2, la, A3, c3, lb, s1, s2, rfl, rfl, rfl, hj, hjl, bxs, two, hbi, hbi2, heqi⟩ := hrel
          by_cases hjt : j < out.length
          · obtain ⟨⟨t1, t2⟩, ht, hts⟩ := drop_step hjt
            obtain ⟨g2, off2, hA1, hgb2, hd0, hd1⟩ := (hout.below hbi (Nat.le_refl _)).at_II ht
            simp only at hd0 hd1
            subst hA1
            have he := heqi.out
            rw [hts] at he
            have hbA : Below (wo.heap.size + 1) wr (wr.alloc (.cells #[.int .i64 t1, .int .i64 t2] 52)) := (Below.refl _ _).alloc hbi2 _
            have bxs2 := bxs.kept hbA (by omega)
            have twoA := two.keep (w' := wr.alloc (.cells #[.int .i64 t1, .int .i64 t2] 52)) (fun b _ hb => Below.heap_alloc wr _ b hb)
            have hbi3 := hbi.trans (hbA.mono (by omega))
            have p0 := bxs2.cell (j := 0) rfl
            have p1 := bxs2.cell (j := 1) rfl
            have pf0 := bxs2.free 0
            have pf1 := bxs2.free 1
            have bt := BoxAt.new wr [.int .i64 t1, .int .i64 t2] 52
            by_cases h1 : t2 < s1
            · have Hqi := Lib.hid (show rIn (out.drop (j + 1)) (la ++ [(t1, t2)]) (s1, s2) lb = rIn out [] (x, y) [] from by rw [← he, rIn, if_pos h1])
              clear he hts ht heqi
              go_wp2_with (at_builtin
                           refine wpList_appF encII sl_iv [(t1, t2)] rfl _ _ rfl rfl twoA.1 #[.int .i64 t1, .int .i64 t2] rfl 0 rfl (by first | rfl | (simp [go_sem]; done)) (by omega) (by simp only [maxLen]; omega) (by simp; omega) ?_
                           intro g' c'' w5 hown5 hg5 hk5 hb5)
              go_roundw
              case rel => exact ⟨j + 1, _, _, la ++ [(t1, t2)], _, _, lb, s1, s2, by go_num, by simp, rfl, by omega, by simp; omega, bxs2.kept hb5 (by omega), twoA.left hown5 hg5 hk5, hbi3.trans (hb5.mono (by omega)), Nat.le_trans (by simp; omega) hb5.size, Hqi⟩
              case measure => simp [intOf]; omega
            · by_cases h2 : s2 < t1
              · have Hqi := Lib.hid (show rIn (out.drop (j + 1)) la (s1, s2) (lb ++ [(t1, t2)]) = rIn out [] (x, y) [] from by rw [← he, rIn, if_neg h1, if_pos h2])
                clear he hts ht heqi
                go_wp2_with (at_builtin
                             refine wpList_appF encII sl_iv [(t1, t2)] rfl _ _ rfl rfl twoA.2.1 #[.int .i64 t1, .int .i64 t2] rfl 0 rfl (by first | rfl | (simp [go_sem]; done)) (by omega) (by simp only [maxLen]; omega) (by simp; omega) ?_
                             intro g' c'' w5 hown5 hg5 hk5 hb5)
                go_roundw
                case rel => exact ⟨j + 1, _, _, la, _, _, lb ++ [(t1, t2)], s1, s2, by go_num, rfl, by simp, by omega, by simp; omega, bxs2.kept hb5 (by omega), (twoA.swap.left hown5 hg5 hk5).swap, hbi3.trans (hb5.mono (by omega)), Nat.le_trans (by simp; omega) hb5.size, Hqi⟩
                case measure => simp [intOf]; omega
              · have Hqi := Lib.hid (show rIn (out.drop (j + 1)) la (min s1 t1, max s2 t2) lb = rIn out [] (x, y) [] from by rw [← he, rIn, if_neg h1, if_neg h2])
                rw [show min s1 t1 = (if t1 < s1 then t1 else s1) from by split <;> omega, show max s2 t2 = (if s2 < t2 then t2 else s2) from by split <;> omega] at Hqi
                clear he hts ht heqi
                go_wp2_with fail
                go_roundw
                case rel =>
                  refine ⟨j + 1, A2, c2, la, A3, c3, lb, _, _, by go_num, rfl, rfl, by omega, by omega, (bxs2.set 0 _).set 1 _, ?_, (hbi3.setCell (p := ⟨wo.heap.size, 0, none⟩) (Nat.le_refl _) _).setCell (p := ⟨wo.heap.size, 1, none⟩) (Nat.le_refl _) _, by simp; omega, Hqi⟩
                  exact twoA.keep (fun b hb1 _ => (heap_setCell_other _ ⟨wo.heap.size, 1, none⟩ b _ (by show b ≠ wo.heap.size; omega)).trans (heap_setCell_other _ ⟨wo.heap.size, 0, none⟩ b _ (by show b ≠ wo.heap.size; omega)))
                case measure => simp [intOf]; omega
          · have he := heqi.out
            rw [drop_end hjt] at he
            have p0 := bxs.cell (j := 0) rfl
            have p1 := bxs.cell (j := 1) rfl
            have Hq2 := Lib.hid (show (l.drop (k + 1)).foldl rStep (la ++ [(s1, s2)] ++ lb) = R from by rw [← Hq.out, ← he]; rfl)
            have hml : (la ++ [(s1, s2)]).length = la.length + 1 := by simp
            have Hml := Lib.hid hml
            have hbiw := hbel.trans (hbi.mono hbs)
            clear heqi he hml
            go_wp2_with (first
              | (at_builtin
                 refine wpList_appF encII sl_iv [(s1, s2)] rfl _ _ rfl rfl two.1 #[.int .i64 s1, .int .i64 s2] rfl 0 rfl (by first | rfl | (simp [go_sem]; done)) (by omega) (by simp only [maxLen]; omega) (by omega) ?_
                 intro g' c'' w5 hown5 hg5 hk5 hb5
                 have two5 := two.left hown5 hg5 hk5)
              | (at_builtin
                 refine wpList_app_any encII sl_iv lb rfl _ _ rfl (by rw [Hml.out]; rfl) hown5 rfl two5.2.1.read (by rw [Hml.out]; omega) (by rw [Hml.out]; simp only [maxLen]; omega) (Nat.le_trans (by omega) hb5.size) ?_
                 intro A4 c4 w6 hown6 hb6))
            go_roundw
            case rel => exact ⟨k + 1, la ++ [(s1, s2)] ++ lb, A4, c4, by go_num, by (simp; omega), by omega, by simp; omega, hown6.base_le (by omega), hbiw.trans ((hb5.trans hb6).mono (by omega)), Hq2⟩
            case measure => simp [intOf]; omega
    · rw [drop_end hlt] at heq
      have Hq := Lib.hid heq.out
      clear heq
      go_wp2_with fail
      go_ret
      have e : out = R := Hq.out
      subst e
      exact ⟨A1, c1, rfl, hown, hbel⟩
end Go.Proofs.Ytldlbfdfaigkcaa
