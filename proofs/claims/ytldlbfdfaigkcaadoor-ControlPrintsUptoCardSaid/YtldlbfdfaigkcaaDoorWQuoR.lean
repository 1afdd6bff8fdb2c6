/- Walks: quoted texts, the reference's. -/
import Derived.Test.YtldlbfdfaigkcaaDoorWQuo
import Derived.Test.YtldlbfdfaigkcaaDoorShelf
namespace Go.Proofs.YtldlbfdfaigkcaaDoor
open Go.RowKit Go.Larder
set_option linter.unusedVariables false
set_option linter.unusedSimpArgs false

theorem q_dat (v : List UInt8) : (⟨v.toArray⟩ : ByteArray).data.toList = v := by simp
theorem w_Repl (s old new : List UInt8) (m : Int) (w : World) (hs : s.length ≤ 10000) (hm : w.cell? ⟨0, 0, none⟩ = some (.int .i64 m)) (h1 : 1 ≤ old.length) (hn : new.length ≤ 10) :
    Calls Tryd.prog 102 #[S s, S old, S new] w fun e w' => e = .returned (S (Lib.replaceAll s old new)) ∧ Below w.heap.size w w' := by
  have hc : Lib.countB ⟨s.toArray⟩ ⟨old.toArray⟩ ≤ s.length + 1 := by
    show Lib.count (⟨s.toArray⟩ : ByteArray).data.toList (⟨old.toArray⟩ : ByteArray).data.toList ≤ _
    rw [q_dat, q_dat]
    exact Lib.count_le s old
  have hc2 : Lib.countB ⟨s.toArray⟩ ⟨old.toArray⟩ * (⟨new.toArray⟩ : ByteArray).size ≤ 10001 * 10 := Nat.mul_le_mul (by omega) (by rw [ba_size]; exact hn)
  have h := Tryd.strings_ReplaceAll ⟨s.toArray⟩ ⟨old.toArray⟩ ⟨new.toArray⟩ m w (by rw [ba_size]; omega) hm (by rw [ba_size]; exact h1) (by rw [ba_size]; omega)
  rw [q_dat, q_dat, q_dat] at h
  exact h
theorem rep_len (s : List UInt8) : (Lib.replaceAll s [92] [92, 92]).length ≤ 2 * s.length := by
  rw [repl_one _ _ _ (by decide)]
  induction s with
  | nil => simp
  | cons a s ih =>
    rw [List.flatMap_cons, List.length_append]
    split <;> simp at * <;> omega

set_option maxHeartbeats 1000000 in
theorem w_QuoteR (l : List UInt8) (hl : l.length ≤ 140737488351232) (m : Int) (w : World) (hm : w.cell? ⟨0, 0, none⟩ = some (.int .i64 m)) :
    Calls Tryd.prog 54 #[S l] w (StPost w (quoE l)) := by
  by_cases hbig : 1000 < l.length
  · rw [quoE_big hbig]
    go_enter Tryd.func54, Tryd.ntmps54
    go_wp2_with fail
    go_ret2
    exact ⟨rfl, Below.refl _ _⟩
  · cases hp : l.all isPl
    · rw [quoE_bad hbig hp]
      go_enter Tryd.func54, Tryd.ntmps54
      go_wp2_with (go_at_call 74; refine (q_plainR l hl _).mono ?_; rintro e w' ⟨rfl, rfl⟩)
      go_ret2
      exact ⟨rfl, Below.refl _ _⟩
    · rw [quoE_ok hbig hp]
      have hr1 := w_Repl l [92] [92, 92] m w (by omega) hm (by simp) (by simp)
      have hlen1 := rep_len l
      have hqr := quo_rep l
      have hql := quoL_len l
      have hlt : 0 < w.heap.size := by
        rcases Nat.lt_or_ge 0 w.heap.size with h | h
        · exact h
        · simp [World.cell?, Array.getElem?_eq_none h] at hm
      generalize Lib.replaceAll l [92] [92, 92] = s1 at hr1 hlen1 hqr
      generalize quoL l = q at hql hqr ⊢
      go_enter Tryd.func54, Tryd.ntmps54
      go_wp2_with (first
        | (go_at_call 74; refine (q_plainR l hl _).mono ?_; rintro e w' ⟨rfl, rfl⟩)
        | fail)
      refine hr1.mono ?_
      rintro e w1 ⟨rfl, hb1⟩
      have hm1 : w1.cell? ⟨0, 0, none⟩ = some (.int .i64 m) := (hb1.cell (p := ⟨0, 0, none⟩) hlt).trans hm
      have hr2 := w_Repl s1 [34] [92, 34] m w1 (by omega) hm1 (by simp) (by simp)
      rw [hqr] at hr2
      go_wp2_with fail
      refine hr2.mono ?_
      rintro e w2 ⟨rfl, hb2⟩
      go_wp2_with fail
      go_ret2
      exact ⟨by simp, hb1.trans (hb2.mono hb1.size)⟩
end Go.Proofs.YtldlbfdfaigkcaaDoor
