/- Appending a whole slice; a slice's head; a pair stored. No program in sight. -/
import Derived.Test.YtbchkaoocobpfaaDoorBase
import Derived.Lib.SliceRun
import Derived.Deep.AppendLies
namespace Go.Larder
open Go.RowKit Go.WideShapes
set_option linter.unusedVariables false
set_option linter.unusedSimpArgs false

section
variable {P : Program} {w : World} {ops : Array Oper} {rest : List Oper} {o : Oper} {a : Act} {Q : Exit → Act → World → Prop} {t e : TypeId} {size bytes : Nat} {α : Type} {base c : Nat} {A A' : Option Addr} {l : List α}

theorem flat_at (E : ElemT α) (news : List α) (j : Nat) (u : Value) (h : (news.flatMap E.enc)[j]? = some u) : ∃ k r x, j = k * E.size + r ∧ news[k]? = some x ∧ (E.enc x)[r]? = some u := by
  have hp := E.pos
  have hj : j < news.length * E.size := by
    have := (List.getElem?_eq_some_iff.1 h).1
    rwa [E.length_flatMap] at this
  have hk : j / E.size < news.length := Nat.div_lt_of_lt_mul (by rw [Nat.mul_comm]; exact hj)
  have hr : j % E.size < E.size := Nat.mod_lt _ hp
  have hx := List.getElem?_eq_getElem hk
  have hu : (E.enc news[j / E.size])[j % E.size]? = some ((E.enc news[j / E.size])[j % E.size]'(by rw [E.len]; exact hr)) := List.getElem?_eq_getElem _
  have hsum : j = j / E.size * E.size + j % E.size := by rw [Nat.mul_comm]; exact (Nat.div_add_mod j E.size).symm
  have := E.get_flatMap news _ _ _ _ hx hu
  rw [← hsum, h] at this
  injection this with this
  exact ⟨_, _, _, hsum, hx, by rw [hu, this]⟩

/-- 'append(s, xs...)': xs reads as a list. -/
theorem wpList_app_sl (E : ElemT α) (T : SlT P t e E.size bytes) (news : List α) (hgd : o.guard = none) (s x : Operand)
    (ho : o.op = .call { callee := .builtin .append, args := #[s, x], argTypes := #[t, t] })
    (hs : a.eval s = .slice A l.length c) (hown : OwnL E w base e A c l) {B c' : Nat} {ad : Addr} (hx : a.eval x = .slice (some ad) news.length c') (hr : ReadL E w B (some ad) news)
    (hb : (l.length + news.length) * bytes ≤ 140737488355328) (h63 : l.length + news.length ≤ maxLen) (hbase : base ≤ w.heap.size)
    (k : ∀ A2 c2 w', OwnL E w' base e A2 c2 (l ++ news) → Below base w w' → wpList P ops Q rest (a.put o.dst (.slice A2 (l.length + news.length) c2)) w') :
    wpList P ops Q (o :: rest) a w := by
  obtain ⟨i, z, hi, hz, hz1, hz2, hz3⟩ := T.info
  refine wpList_append_own _ hgd s x t ho base e i z E.size bytes T.ht hi hz hz1 hz2 hz3 E.pos (.slice A l.length c) l.length (l.flatMap E.enc) hs hown ad news.length c' (news.flatMap E.enc) hx
    (by rw [E.length_flatMap]) ?_ (E.one_flatMap news) h63 hb hbase ?_
  · intro j u hj
    obtain ⟨k', r, y, rfl, hy, hu⟩ := flat_at E news j u hj
    obtain ⟨b', off', hA, _, hc⟩ := hr (by have := (List.getElem?_eq_some_iff.1 hy).1; omega)
    injection hA with hA
    subst hA
    rw [add_plain, ← Nat.add_assoc]
    exact hc k' y hy r u hu
  · intro v' w' h1 h2 _
    obtain ⟨A2, c2, rfl⟩ : ∃ A2 c2, v' = .slice A2 (l.length + news.length) c2 := by
      rcases h1.2 with ⟨hv, h0⟩ | ⟨g, cap, _, rfl, _⟩
      · exact ⟨none, 0, by rw [hv, h0]⟩
      · exact ⟨_, cap, rfl⟩
    refine k A2 c2 w' ?_ ⟨h2.os, h2.tape, h2.output, h2.size, fun i hi => h2.block i (by omega) ?_⟩
    · unfold OwnL
      rw [List.length_append, List.flatMap_append]
      exact h1
    · intro hne
      cases A with
      | none => simp [Value.ownBlock] at hne
      | some g' =>
        have := (OwnL.lt hown g' rfl).1
        simp [Value.ownBlock] at hne
        omega
end

theorem OwnL.le_cap {α : Type} {E : ElemT α} {w : World} {base : Nat} {e : TypeId} {A : Option Addr} {c : Nat} {l : List α} (h : OwnL E w base e A c l) : l.length ≤ c := by
  obtain ⟨_, h2⟩ := h
  rcases h2 with ⟨hv, h0⟩ | ⟨g, cap, cur, hv, _, _, hnc, _⟩
  · omega
  · injection hv with _ _ hc
    omega

/-- The head of an own row. -/
theorem OwnL.take {α : Type} {E : ElemT α} {w : World} {base : Nat} {e : TypeId} {A : Option Addr} {c : Nat} {l : List α} (h : OwnL E w base e A c l) (i : Nat) (hi : i ≤ l.length) : OwnL E w base e A c (l.take i) := by
  obtain ⟨h1, h2⟩ := h
  have hli : (l.take i).length = i := by rw [List.length_take]; omega
  have hfl : (l.take i).flatMap E.enc = (l.flatMap E.enc).take (i * E.size) := by
    have : l.flatMap E.enc = (l.take i).flatMap E.enc ++ (l.drop i).flatMap E.enc := by rw [← List.flatMap_append, List.take_append_drop]
    rw [this, List.take_left' (by rw [E.length_flatMap, hli])]
  refine ⟨by rw [E.length_flatMap], ?_⟩
  rcases h2 with ⟨hv, h0⟩ | ⟨g, cap, cur, hv, hg, hh, hnc, hcm, hcs, hcur⟩
  · injection hv with hA hl hc
    exact .inl ⟨by rw [hA, hc, hli]; congr 1; omega, by omega⟩
  · injection hv with hA hl hc
    refine .inr ⟨g, cap, cur, by rw [hA, hc], hg, hh, by omega, hcm, hcs, ?_⟩
    rw [hli, hfl, ← hcur, List.take_take]
    congr 1
    rw [Nat.min_eq_left]
    exact Nat.mul_le_mul_right _ hi

theorem row_take {w : World} {base : Nat} {e : TypeId} {size : Nat} {A : Option Addr} {n c : Nat} {xs : List Value} (h : w.ownsRow base e size (.slice A n c) n xs) (i : Nat) (hi : i ≤ n) : w.ownsRow base e size (.slice A i c) i (xs.take (i * size)) := by
  obtain ⟨h1, h2⟩ := h
  have him : i * size ≤ n * size := Nat.mul_le_mul_right _ hi
  refine ⟨by rw [List.length_take]; omega, ?_⟩
  rcases h2 with ⟨hv, h0⟩ | ⟨g, cap, cur, hv, hg, hh, hnc, hcm, hcs, hcur⟩
  · injection hv with hA hl hc
    exact .inl ⟨by rw [hA, hc]; congr 1; omega, by omega⟩
  · injection hv with hA hl hc
    refine .inr ⟨g, cap, cur, by rw [hA, hc], hg, hh, by omega, hcm, hcs, ?_⟩
    rw [← hcur, List.take_take, Nat.min_eq_left him]

theorem own_setCells {base : Nat} {e : TypeId} {size g n c : Nat} : ∀ (vs : List Value) (o : Nat) (w : World) (xs : List Value), w.ownsRow base e size (.slice (some ⟨g, 0, none⟩) n c) n xs →
    ∃ xs', (w.setCells g o vs).ownsRow base e size (.slice (some ⟨g, 0, none⟩) n c) n xs' ∧ xs'.take o = xs.take o
  | [], o, w, xs, h => ⟨xs, h, rfl⟩
  | v :: vs, o, w, xs, h => by
    obtain ⟨xs', h1, h2⟩ := own_setCells vs (o + 1) _ _ (World.ownsRow.stored h o v).1
    refine ⟨xs', h1, ?_⟩
    have h3 := congrArg (List.take o) h2
    rw [List.take_take, List.take_take, Nat.min_eq_left (by omega)] at h3
    rw [h3, List.take_set_of_le (Nat.le_refl o)]

theorem below_setCells {B : Nat} : ∀ (vs : List Value) (g o : Nat) (a w : World), B ≤ g → Below B a w → Below B a (w.setCells g o vs)
  | [], _, _, _, _, _, h => h
  | v :: vs, g, o, a, w, hg, h => below_setCells vs g (o + 1) a _ hg (h.setCell (p := ⟨g, o, none⟩) hg v)

theorem flat_F : ∀ (l : List (List UInt8 × List UInt8)) (j : Nat) (x : List UInt8 × List UInt8), (l.set j x).flatMap encF.enc = ((l.flatMap encF.enc).set (j * 2) (S x.1)).set (j * 2 + 1) (S x.2)
  | [], j, x => by simp
  | y :: l, 0, x => by simp [encF]
  | y :: l, j + 1, x => by
    have := flat_F l j x
    rw [List.set_cons_succ, List.flatMap_cons, this, List.flatMap_cons]
    have he : encF.enc y = [S y.1, S y.2] := rfl
    rw [he, show (j + 1) * 2 = j * 2 + 1 + 1 from by omega]
    simp

theorem OwnL.set_F {w : World} {base : Nat} {e : TypeId} {g c : Nat} {l : List (List UInt8 × List UInt8)} (h : OwnL encF w base e (some ⟨g, 0, none⟩) c l) (j : Nat) (x : List UInt8 × List UInt8) :
    OwnL encF ((w.setCell ⟨g, j * 2, none⟩ (S x.1)).setCell ⟨g, j * 2 + 1, none⟩ (S x.2)) base e (some ⟨g, 0, none⟩) c (l.set j x) := by
  have h1 := (World.ownsRow.stored (World.ownsRow.stored h (j * 2) (S x.1)).1 (j * 2 + 1) (S x.2)).1
  unfold OwnL
  rw [flat_F, List.length_set]
  exact h1

theorem OwnL.get_F {w : World} {base : Nat} {e : TypeId} {g c j : Nat} {l : List (List UInt8 × List UInt8)} {x : List UInt8 × List UInt8} (h : OwnL encF w base e (some ⟨g, 0, none⟩) c l) (hx : l[j]? = some x) :
    w.cell? ⟨g, j * 2, none⟩ = some (S x.1) ∧ w.cell? ⟨g, j * 2 + 1, none⟩ = some (S x.2) := by
  obtain ⟨g', off', hA', _, hc0, hc1⟩ := h.read.at_F hx
  injection hA' with hA'
  injection hA' with e1 e2
  subst e1 e2
  rw [Nat.zero_add] at hc0 hc1
  exact ⟨hc0, hc1⟩

/-- 'clear(s)' at elements of two cells. -/
theorem run_clear2 {P : Program} (w : World) (t e ty : TypeId) (z : Value) (u1 u2 : Value) (ht : P.underlying t = some (.slice e)) (hv : ∀ w, (zeroValue e).run P w = .ok z w) (hz : z.cells = #[u1, u2]) (h1 : u1.oneCell' = true) (h2 : u2.oneCell' = true) (b o n c : Nat) (hn : 0 < n)
    (hc : ∀ j, j < n * 2 → (w.cell? ⟨b, o + j, none⟩).isSome = true) (hf : ∀ j, j < n * 2 → w.frozen? ⟨b, o + j, none⟩ = false) :
    ∃ vs, (Builtin.clear_ #[t] ty #[.slice (some ⟨b, o, none⟩) n c]).run P w = .ok (.tuple #[]) (w.setCells b o vs) := by
  refine ⟨(Builtin.zeroCells z.cells n).toList, ?_⟩
  have hl : (Builtin.zeroCells z.cells n).toList.length = n * 2 := by rw [hz]; simp [Builtin.zeroCells]
  have hst := run_storeCells_cells (P := P) b o (Builtin.zeroCells z.cells n).toList 0 w (by rw [hl]; simpa using hc) (by rw [hl]; simpa using hf) (by
    intro v hv'
    rw [hz] at hv'
    simp only [Builtin.zeroCells, Array.mem_toList_iff] at hv'
    obtain ⟨i, _, rfl⟩ := Array.mem_map.1 hv'
    rcases Nat.mod_two_eq_zero_or_one i with h | h
    · simp [h, h1]
    · simp [h, h2])
  simp only [Nat.add_zero] at hst
  obtain ⟨m, rfl⟩ : ∃ m, n = m + 1 := ⟨n - 1, by omega⟩
  simp [Builtin.clear_, run_underlying ht, hv, hst]

/-- The same at a step of a region that draws. -/
theorem step_app_sl {P : Program} {w : World} {ops : Array Oper} {o : Oper} {a : Act} {K : Act → World → Prop} {Q : Exit → Act → World → Prop} {Z : Prop} {t e : TypeId} {bytes : Nat} {α : Type} {base c : Nat} {A : Option Addr} {l : List α}
    (E : ElemT α) (T : SlT P t e E.size bytes) (news : List α) (hgd : o.guard = none) (s x : Operand)
    (ho : o.op = .call { callee := .builtin .append, args := #[s, x], argTypes := #[t, t] })
    (hs : a.eval s = .slice A l.length c) (hown : OwnL E w base e A c l) {B c' : Nat} {ad : Addr} (hx : a.eval x = .slice (some ad) news.length c') (hr : ReadL E w B (some ad) news)
    (hb : (l.length + news.length) * bytes ≤ 140737488355328) (h63 : l.length + news.length ≤ maxLen) (hbase : base ≤ w.heap.size)
    (k : ∀ A2 c2 w', OwnL E w' base e A2 c2 (l ++ news) → Below base w w' → K (a.put o.dst (.slice A2 (l.length + news.length) c2)) w') :
    if Region.wanted o (yielded ops a.tmps) = true then Oper.wp P o a w K Q else Z := by
  have hw : Region.wanted o (yielded ops a.tmps) = true := by simp [Region.wanted, hgd]
  rw [if_pos hw]
  obtain ⟨i, z, hi, hz, hz1, hz2, hz3⟩ := T.info
  refine wp_append_own w s x t ho base e i z E.size bytes T.ht hi hz hz1 hz2 hz3 E.pos (.slice A l.length c) l.length (l.flatMap E.enc) hs hown ad news.length c' (news.flatMap E.enc) hx
    (by rw [E.length_flatMap]) ?_ (E.one_flatMap news) h63 hb hbase ?_
  · intro j u hj
    obtain ⟨k', r, y, rfl, hy, hu⟩ := flat_at E news j u hj
    obtain ⟨b', off', hA, _, hc⟩ := hr (by have := (List.getElem?_eq_some_iff.1 hy).1; omega)
    injection hA with hA
    subst hA
    rw [add_plain, ← Nat.add_assoc]
    exact hc k' y hy r u hu
  · intro v' w' h1 h2 _
    obtain ⟨A2, c2, rfl⟩ : ∃ A2 c2, v' = .slice A2 (l.length + news.length) c2 := by
      rcases h1.2 with ⟨hv, h0⟩ | ⟨g, cap, _, rfl, _⟩
      · exact ⟨none, 0, by rw [hv, h0]⟩
      · exact ⟨_, cap, rfl⟩
    refine k A2 c2 w' ?_ ⟨h2.os, h2.tape, h2.output, h2.size, fun i hi => h2.block i (by omega) ?_⟩
    · unfold OwnL
      rw [List.length_append, List.flatMap_append]
      exact h1
    · intro hne
      cases A with
      | none => simp [Value.ownBlock] at hne
      | some g' =>
        have := (OwnL.lt hown g' rfl).1
        simp [Value.ownBlock] at hne
        omega

theorem run_append_none {P : Program} (w : World) (t ty e : TypeId) (i : TypeInfo) (ht : P.underlying t = some (.slice e)) (hi : P.info? e = some i) (A : Option Addr) (n c c' : Nat) (hnc : n ≤ c) :
    (Builtin.append_ #[t, t] ty #[.slice A n c, .slice none 0 c']).run P w = .ok (.slice A n c) w := by
  cases A with
  | none => simp [Builtin.append_, run_underlying ht, sizeOf, typeInfo, hi, Builtin.lenOf, run_firstCells_none, hnc]
  | some a => simp [Builtin.append_, run_underlying ht, sizeOf, typeInfo, hi, Builtin.lenOf, run_firstCells_none, hnc, storeCells]

/-- .. whether xs is nil or not. -/
theorem step_app_any {P : Program} {w : World} {ops : Array Oper} {o : Oper} {a : Act} {K : Act → World → Prop} {Q : Exit → Act → World → Prop} {Z : Prop} {t e : TypeId} {bytes : Nat} {α : Type} {base c : Nat} {A : Option Addr} {l : List α}
    (E : ElemT α) (T : SlT P t e E.size bytes) (news : List α) (hgd : o.guard = none) (s x : Operand)
    (ho : o.op = .call { callee := .builtin .append, args := #[s, x], argTypes := #[t, t] })
    (hs : a.eval s = .slice A l.length c) (hown : OwnL E w base e A c l) {B c' : Nat} {A' : Option Addr} (hx : a.eval x = .slice A' news.length c') (hr : ReadL E w B A' news)
    (hb : (l.length + news.length) * bytes ≤ 140737488355328) (h63 : l.length + news.length ≤ maxLen) (hbase : base ≤ w.heap.size)
    (k : ∀ A2 c2 w', OwnL E w' base e A2 c2 (l ++ news) → Below base w w' → K (a.put o.dst (.slice A2 (l.length + news.length) c2)) w') :
    if Region.wanted o (yielded ops a.tmps) = true then Oper.wp P o a w K Q else Z := by
  cases A' with
  | some ad => exact step_app_sl E T news hgd s x ho hs hown hx hr hb h63 hbase k
  | none =>
    have h0 : news = [] := by
      cases news with
      | nil => rfl
      | cons f l => obtain ⟨_, _, h, _⟩ := hr (by simp); cases h
    subst h0
    have hw : Region.wanted o (yielded ops a.tmps) = true := by simp [Region.wanted, hgd]
    rw [if_pos hw]
    obtain ⟨i, z, hi, hz, hz1, hz2, hz3⟩ := T.info
    have hrun := run_append_none w t o.type e i T.ht hi A l.length c c' hown.le_cap
    have hk := k A c w (by simpa using hown) (Below.refl _ _)
    unfold Oper.wp execOp
    simp only [ho, resolve, invoke, builtin, Sem.run_bind, Sem.run_pure, Result.andThen_ok, List.map_toArray, List.map_cons, List.map_nil, hs, hx, List.length_nil, hrun]
    exact hk
end Go.Larder
