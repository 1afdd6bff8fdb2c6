/- append onto a full slice: the result lies in a new row. No program in sight. -/
import Derived.Test.YtbchkaoocobpfaaDoorApp
import Derived.ArgAppend
namespace Go.Larder
open Go.RowKit
set_option linter.unusedSimpArgs false
set_option linter.unusedVariables false
theorem wpList_app_full {P : Program} {w : World} {ops : Array Oper} {rest : List Oper} {o : Oper} {a : Act} {Q : Exit → Act → World → Prop} {t e : TypeId} {bytes c : Nat} {α : Type} {l : List α}
    (E : ElemT α) (T : SlT P t e E.size bytes) (news : List α) (hgd : o.guard = none) (s x : Operand)
    (ho : o.op = .call { callee := .builtin .append, args := #[s, x], argTypes := #[t, t] }) (b off : Nat)
    (hs : a.eval s = .slice (some ⟨b, off, none⟩) l.length c) (hr : ReadL E w w.heap.size (some ⟨b, off, none⟩) l) (cs : Array Value) (hcs : cs.toList = news.flatMap E.enc) (m : Nat) (hm : news.length = m + 1)
    (hx : a.eval x = .slice (some ⟨w.heap.size, 0, none⟩) (m + 1) (m + 1)) (hfull : c < l.length + (m + 1)) (hb : (l.length + (m + 1)) * bytes ≤ 140737488355328) (h63 : l.length + (m + 1) ≤ maxLen)
    (k : ∀ g c' w', OwnL E w' (w.heap.size + 1) e (some ⟨g, 0, none⟩) c' (l ++ news) → Below w.heap.size w w' → wpList P ops Q rest (a.put o.dst (.slice (some ⟨g, 0, none⟩) (l.length + (m + 1)) c')) w') :
    wpList P ops Q (o :: rest) a (w.alloc (.cells cs e)) := by
  obtain ⟨i, z, hi, hz, hz1, hz2, hz3⟩ := T.info
  have hr2 := hr.alloc (Nat.le_refl _) (.cells cs e)
  refine wpList_append_grows _ hgd s x t ho e i z E.size bytes T.ht hi hz hz1 hz2 hz3 E.pos (some ⟨b, off, none⟩) l.length c (l.flatMap E.enc) hs (fun h => by cases h) (E.length_flatMap l) ?_
    ⟨w.heap.size, 0, none⟩ (m + 1) (m + 1) (news.flatMap E.enc) hx (by rw [E.length_flatMap, hm]) ?_ (E.one_flatMap news) hfull h63 hb ?_
  · intro ad hA j u hj
    injection hA with hA
    subst hA
    obtain ⟨k, r, y, rfl, hy, hu⟩ := flat_at E l j u hj
    obtain ⟨b', off', hA2, _, hc⟩ := hr2.at_ hy
    injection hA2 with hA2
    injection hA2 with h1 h2
    subst h1 h2
    have hadd : ∀ i, (⟨b, off, none⟩ : Addr).add i = ⟨b, off + i, none⟩ := fun i => by unfold Addr.add; split <;> simp_all
    rw [hadd, ← Nat.add_assoc]
    exact hc r u hu
  · intro j u hj
    exact World.news_of_block (heap_alloc_new w (.cells cs e)) j u (by rw [hcs]; exact hj)
  · intro v' w' h1 h2
    have hsz : (w.alloc (.cells cs e)).heap.size = w.heap.size + 1 := by simp
    obtain ⟨g, cap, rfl⟩ : ∃ g cap, v' = .slice (some ⟨g, 0, none⟩) (l.length + (m + 1)) cap := by
      rcases h1.2 with ⟨_, h0⟩ | ⟨g, cap, _, rfl, _⟩
      · omega
      · exact ⟨g, cap, rfl⟩
    have hl : (l ++ news).length = l.length + (m + 1) := by simp [hm]
    refine k g cap w' ?_ ⟨h2.os, h2.tape, h2.output, Nat.le_trans (by simp) h2.size, fun i hi => (h2.block i (by simp; omega) (by simp)).trans (Below.heap_alloc w _ i hi)⟩
    unfold OwnL
    rw [hl, List.flatMap_append, ← hsz]
    exact h1

theorem wpList_app_any {P : Program} {w : World} {ops : Array Oper} {rest : List Oper} {o : Oper} {a : Act} {Q : Exit → Act → World → Prop} {t e : TypeId} {bytes : Nat} {α : Type} {base c : Nat} {A : Option Addr} {l : List α}
    (E : ElemT α) (T : SlT P t e E.size bytes) (news : List α) (hgd : o.guard = none) (s x : Operand)
    (ho : o.op = .call { callee := .builtin .append, args := #[s, x], argTypes := #[t, t] })
    (hs : a.eval s = .slice A l.length c) (hown : OwnL E w base e A c l) {B c' : Nat} {A' : Option Addr} (hx : a.eval x = .slice A' news.length c') (hr : ReadL E w B A' news)
    (hb : (l.length + news.length) * bytes ≤ 140737488355328) (h63 : l.length + news.length ≤ maxLen) (hbase : base ≤ w.heap.size)
    (k : ∀ A2 c2 w', OwnL E w' base e A2 c2 (l ++ news) → Below base w w' → wpList P ops Q rest (a.put o.dst (.slice A2 (l.length + news.length) c2)) w') :
    wpList P ops Q (o :: rest) a w := by
  cases A' with
  | some ad => exact wpList_app_sl E T news hgd s x ho hs hown hx hr hb h63 hbase k
  | none =>
    have h0 : news = [] := by
      cases news with
      | nil => rfl
      | cons f l => obtain ⟨_, _, h, _⟩ := hr (by simp); cases h
    subst h0
    obtain ⟨i, z, hi, hz, hz1, hz2, hz3⟩ := T.info
    have hrun := run_append_none w t o.type e i T.ht hi A l.length c c' hown.le_cap
    have hk := k A c w (by simpa using hown) (Below.refl _ _)
    refine wpList_plain hgd fun K hK => ?_
    have hk2 := hK _ _ hk
    unfold Oper.wp execOp
    simp only [ho, resolve, invoke, builtin, Sem.run_bind, Sem.run_pure, Result.andThen_ok, List.map_toArray, List.map_cons, List.map_nil, hs, hx, List.length_nil, hrun]
    exact hk2
end Go.Larder
