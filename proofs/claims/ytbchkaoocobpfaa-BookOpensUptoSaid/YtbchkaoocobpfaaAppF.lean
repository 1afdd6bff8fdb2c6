/- append of new elements: the row stays where it was or lies in a new block; every other block is as it was. No program in sight. -/
import Derived.Test.YtbchkaoocobpfaaAppG
import Derived.OwnWalk
namespace Go.Larder
open Go.RowKit
set_option linter.unusedVariables false
set_option linter.unusedSimpArgs false
section
variable {P : Program} {w : World} {ops : Array Oper} {rest : List Oper} {o : Oper} {a : Act} {Q : Exit → Act → World → Prop} {t e : TypeId} {bytes : Nat} {α : Type} {base c : Nat} {A : Option Addr} {l : List α}
theorem OwnL.form {E : ElemT α} (h : OwnL E w base e A c l) : (A = none ∧ l.length = 0 ∧ c = 0) ∨ ∃ g, A = some ⟨g, 0, none⟩ ∧ base ≤ g ∧ g < w.heap.size := by
  obtain ⟨_, h2⟩ := h
  rcases h2 with ⟨hv, h0⟩ | ⟨g, cap, cur, hv, hg, hh, r⟩
  · injection hv with hA hl hc
    exact .inl ⟨hA, h0, hc⟩
  · injection hv with hA _ _
    refine .inr ⟨g, hA, hg, ?_⟩
    rcases Nat.lt_or_ge g w.heap.size with h' | h'
    · exact h'
    · simp [Array.getElem?_eq_none h'] at hh
theorem wpList_appF (E : ElemT α) (T : SlT P t e E.size bytes) (news : List α) (hgd : o.guard = none) (s x : Operand)
    (ho : o.op = .call { callee := .builtin .append, args := #[s, x], argTypes := #[t, t] })
    (hs : a.eval s = .slice A l.length c) (hown : OwnL E w base e A c l) (cs : Array Value) (hcs : cs.toList = news.flatMap E.enc) (m : Nat) (hm : news.length = m + 1)
    (hx : a.eval x = .slice (some ⟨w.heap.size, 0, none⟩) (m + 1) (m + 1)) (hb : (l.length + (m + 1)) * bytes ≤ 140737488355328) (h63 : l.length + (m + 1) ≤ maxLen) (hbase : base ≤ w.heap.size)
    (k : ∀ g c' w', OwnL E w' base e (some ⟨g, 0, none⟩) c' (l ++ news) → (A = some ⟨g, 0, none⟩ ∨ w.heap.size < g) → (∀ b, b < w.heap.size → A ≠ some ⟨b, 0, none⟩ → w'.heap[b]? = w.heap[b]?) → Below base w w' → wpList P ops Q rest (a.put o.dst (.slice (some ⟨g, 0, none⟩) (l.length + (m + 1)) c')) w') :
    wpList P ops Q (o :: rest) a (w.alloc (.cells cs e)) := by
  obtain ⟨i, z, hi, hz, hz1, hz2, hz3⟩ := T.info
  have hsz : (w.alloc (.cells cs e)).heap.size = w.heap.size + 1 := by simp
  have hnews : ∀ j u, (news.flatMap E.enc)[j]? = some u → (w.alloc (.cells cs e)).cell? ((⟨w.heap.size, 0, none⟩ : Addr).add j) = some u := fun j u hj =>
    World.news_of_block (heap_alloc_new w (.cells cs e)) j u (by rw [hcs]; exact hj)
  have hl : (l ++ news).length = l.length + (m + 1) := by simp [hm]
  have hown2 := OwnL.alloc hown (.cells cs e)
  by_cases hfit : l.length + (m + 1) ≤ c
  · rcases hown.form with ⟨rfl, h0, rfl⟩ | ⟨g, rfl, hg, hlt⟩
    · omega
    · refine wpList_append_fits _ hgd s x t ho base e i E.size T.ht hi hz1 g l.length c (l.flatMap E.enc) hs hown2 ⟨w.heap.size, 0, none⟩ (m + 1) (m + 1) (news.flatMap E.enc) hx (by rw [E.length_flatMap, hm]) hnews (E.one_flatMap news) hfit ?_
      intro w' r1 r2
      refine k g c w' (by unfold OwnL; rw [hl, List.flatMap_append]; exact r1) (.inl rfl) (fun b hb hne => (r2.block b (by rw [hsz]; omega) (fun h => by injection h with h; exact hne (by rw [h]))).trans (Below.heap_alloc w _ b hb))
        ⟨r2.os, r2.tape, r2.output, Nat.le_trans (by simp) r2.size, fun b hb => (r2.block b (by rw [hsz]; omega) (fun h => by injection h with h; omega)).trans (Below.heap_alloc w _ b (by omega))⟩
  · refine wpList_append_grows _ hgd s x t ho e i z E.size bytes T.ht hi hz hz1 hz2 hz3 E.pos A l.length c (l.flatMap E.enc) hs ?_ (E.length_flatMap l) ?_ ⟨w.heap.size, 0, none⟩ (m + 1) (m + 1) (news.flatMap E.enc) hx (by rw [E.length_flatMap, hm]) hnews (E.one_flatMap news) (by omega) h63 hb ?_
    · intro hA
      rcases hown.form with ⟨_, h0, h1⟩ | ⟨g, h, _⟩
      · exact ⟨h0, h1⟩
      · rw [hA] at h; cases h
    · intro ad hA j u hj
      subst hA
      obtain ⟨k', r, y, rfl, hy, hu⟩ := flat_at E l j u hj
      obtain ⟨b', off', hA2, _, hc⟩ := hown2.read.at_ hy
      injection hA2 with hA2
      subst hA2
      have hadd : ∀ i, (⟨b', off', none⟩ : Addr).add i = ⟨b', off' + i, none⟩ := fun i => by unfold Addr.add; split <;> simp_all
      rw [hadd, ← Nat.add_assoc]
      exact hc r u hu
    · intro v' w' h1 h2
      obtain ⟨g, cap, rfl, hg⟩ : ∃ g cap, v' = .slice (some ⟨g, 0, none⟩) (l.length + (m + 1)) cap ∧ (w.alloc (.cells cs e)).heap.size ≤ g := by
        rcases h1.2 with ⟨_, h0⟩ | ⟨g, cap, _, rfl, hg, _⟩
        · omega
        · exact ⟨g, cap, rfl, hg⟩
      refine k g cap w' ?_ (.inr (by omega)) (fun b hb hne => (h2.block b (by rw [hsz]; omega) (by simp)).trans (Below.heap_alloc w _ b hb))
        ⟨h2.os, h2.tape, h2.output, Nat.le_trans (by simp) h2.size, fun b hb => (h2.block b (by rw [hsz]; omega) (by simp)).trans (Below.heap_alloc w _ b (by omega))⟩
      unfold OwnL
      rw [hl, List.flatMap_append]
      obtain ⟨q1, q2⟩ := h1
      refine ⟨q1, ?_⟩
      rcases q2 with q2 | ⟨g2, c2, cur, e1, e2, r⟩
      · exact .inl q2
      · exact .inr ⟨g2, c2, cur, e1, by omega, r⟩
end
end Go.Larder
