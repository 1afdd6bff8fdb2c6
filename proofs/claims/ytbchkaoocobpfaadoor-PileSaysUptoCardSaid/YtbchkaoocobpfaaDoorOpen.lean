/- A slice among the arguments, opened as one list (strings, pairs of texts, pairs of numbers), with the bounds of both forms. -/
import Derived.Test.YtbchkaoocobpfaaDoorFrame
import Derived.Test.YtbchkaoocobpfaaDoorRows
namespace Go.Larder
open Go.RowKit Go.ChangeShapes Go.WideShapes Go.Deep
set_option linter.unusedVariables false
set_option linter.unusedSimpArgs false

/-- What an element of type e reads as, and what is known of it. -/
structure OpenE {H : Type} (enc : TypeId × Value → H) (P : Program) (e : TypeId) {α : Type} (E : ElemT α) (dat : α → DataW H) (okx big : α → Prop) (bulk : α → Nat) : Prop where
  size : P.cellsOf e = E.size
  op : ∀ (w : World) (base : Nat) (spare : Nat → Bool) (held : Bool) (n : Nat) (cs : List Value) (y : DataW H × List MemPlace), DataW.trod enc P w base spare held n e cs = some y → ∃ x, cs = E.enc x ∧ y.1 = dat x ∧ okx x
  weight : ∀ x, (∀ n ∈ (dat x).weights P e, n ≤ reachBytes) → big x
  bulk : ∀ x, Go.Proofs.YtbchkaoocobpfaaDoor.Rows.uptoBulk (dat x) = bulk x

section
variable {H : Type} {enc : TypeId × Value → H} {P : Program} {e : TypeId}

theorem OpenE.string (he : P.underlying e = some .string) (hc : P.cellsOf e = 1) :
    OpenE enc P e encS (fun s => .lit (.string s)) (fun _ => True) (fun s => s.length ≤ reachBytes) (fun s => s.length + 1) where
  size := hc
  op := fun w base spare held n cs y h => by
    obtain ⟨s, rfl, rfl, _⟩ := DataW.trod_string he h
    obtain ⟨⟨l⟩⟩ := s
    exact ⟨l, rfl, rfl, trivial⟩
  weight := fun x h => h _ (by simp [DataW.weights])
  bulk := fun x => by simp [Go.Proofs.YtbchkaoocobpfaaDoor.Rows.uptoBulk]

theorem OpenE.texts {f0 f1 : Field} (he : P.underlying e = some (.struct #[f0, f1])) (hc : P.cellsOf e = 2) (h0 : P.underlying f0.type = some .string) (h1 : P.underlying f1.type = some .string)
    (o0 : f0.offset = 0) (o1 : f1.offset = 1) (c0 : P.cellsOf f0.type = 1) (c1 : P.cellsOf f1.type = 1) :
    OpenE enc P e encF (fun f => .agg [.lit (.string f.1), .lit (.string f.2)]) (fun _ => True) (fun f => f.1.length ≤ reachBytes ∧ f.2.length ≤ reachBytes) (fun f => f.1.length + f.2.length + 3) where
  size := hc
  op := fun w base spare held n cs y h => by
    obtain ⟨y0, y1, n', rfl, hl, g0, g1⟩ := trod_struct2 he h
    rw [hc] at hl
    rw [o0, c0] at g0
    rw [o1, c1] at g1
    match cs, hl with
    | [u0, u1], _ =>
      obtain ⟨s0, e0, rfl, _⟩ := DataW.trod_string h0 g0
      obtain ⟨s1, e1, rfl, _⟩ := DataW.trod_string h1 g1
      simp at e0 e1
      subst e0 e1
      obtain ⟨⟨l0⟩⟩ := s0
      obtain ⟨⟨l1⟩⟩ := s1
      exact ⟨(l0, l1), rfl, rfl, trivial⟩
  weight := fun x h => by
    exact ⟨h _ (by simp [DataW.weights, he, DataW.weightsEach]), h _ (by simp [DataW.weights, he, DataW.weightsEach])⟩
  bulk := fun x => by simp [Go.Proofs.YtbchkaoocobpfaaDoor.Rows.uptoBulk, Go.Proofs.YtbchkaoocobpfaaDoor.Rows.uptoBulkAll]; omega

theorem OpenE.nums {f0 f1 : Field} (he : P.underlying e = some (.struct #[f0, f1])) (hc : P.cellsOf e = 2) (h0 : P.underlying f0.type = some (.int .i64)) (h1 : P.underlying f1.type = some (.int .i64))
    (o0 : f0.offset = 0) (o1 : f1.offset = 1) (c0 : P.cellsOf f0.type = 1) (c1 : P.cellsOf f1.type = 1) :
    OpenE enc P e encII (fun f => .agg [.lit (.int .i64 f.1), .lit (.int .i64 f.2)]) (fun f => (-9223372036854775808 ≤ f.1 ∧ f.1 ≤ 9223372036854775807) ∧ (-9223372036854775808 ≤ f.2 ∧ f.2 ≤ 9223372036854775807)) (fun _ => True) (fun _ => 3) where
  size := hc
  op := fun w base spare held n cs y h => by
    obtain ⟨y0, y1, n', rfl, hl, g0, g1⟩ := trod_struct2 he h
    rw [hc] at hl
    rw [o0, c0] at g0
    rw [o1, c1] at g1
    match cs, hl with
    | [u0, u1], _ =>
      obtain ⟨s0, e0, rfl, w0⟩ := DataW.trod_int h0 g0
      obtain ⟨s1, e1, rfl, w1⟩ := DataW.trod_int h1 g1
      simp at e0 e1
      subst e0 e1
      exact ⟨(s0, s1), rfl, rfl, bounds_i64 w0, bounds_i64 w1⟩
  weight := fun _ _ => trivial
  bulk := fun x => by simp [Go.Proofs.YtbchkaoocobpfaaDoor.Rows.uptoBulk, Go.Proofs.YtbchkaoocobpfaaDoor.Rows.uptoBulkAll]

variable {α : Type} {E : ElemT α} {dat : α → DataW H} {okx big : α → Prop} {bulk : α → Nat}
  {w : World} {base : Nat} {spare : Nat → Bool} {held : Bool} {r : Reach} {b0 : Nat} {t : TypeId} {v : Value} {d : DataW H} {ps : List MemPlace}

/-- A slice in one cell, opened. -/
theorem open_list_cell (O : OpenE enc P e E dat okx big bulk) (ht : P.underlying t = some (.slice e)) {m : Nat} {cs0 : List Value} (hm : DataW.trod enc P w base spare held m t cs0 = some (d, ps)) :
    ∃ (A : Option Addr) (l : List α) (c : Nat), cs0 = [.slice A l.length c] ∧ l.length ≤ c ∧ c ≤ maxLen ∧ ReadL E w w.heap.size A l ∧ (∀ x ∈ l, okx x) ∧
      ((d = .nil ∧ A = none ∧ l = [] ∧ c = 0) ∨ A ≠ none ∧ ∃ sp, d = .slice (l.map dat) sp) := by
  rcases open_slice ht hm with ⟨hcs, hx⟩ | ⟨a, len0, cap0, m', n, D, Pl, hcs, hb, hl, hcap, hm', hx, hall⟩
  · subst hcs
    injection hx with h1 h2
    exact ⟨none, [], 0, rfl, by simp, by simp [maxLen], fun h => absurd h (by simp), by simp, .inl ⟨h1, rfl, rfl, rfl⟩⟩
  · subst hcs
    injection hx with h1 h2
    have hlm : len0 ≤ m' := by rw [hm']; split <;> omega
    have each : ∀ i, ∃ x : Option α, i < len0 → ∃ y, x = some y ∧ ∃ cs', w.cells? base (a.add (i * E.size)) E.size = some cs' ∧ cs' = E.enc y ∧ D i = dat y ∧ okx y := fun i => by
      by_cases hi : i < len0
      · obtain ⟨cs', g1, g2⟩ := hall i (by omega)
        obtain ⟨x, hx1, hx2, hx3⟩ := O.op _ _ _ _ _ _ _ g2
        rw [O.size] at g1
        exact ⟨some x, fun _ => ⟨x, rfl, cs', g1, hx1, hx2, hx3⟩⟩
      · exact ⟨none, fun h => absurd h hi⟩
    have : ∃ X : Nat → Option α, ∀ i, i < len0 → ∃ y, X i = some y ∧ ∃ cs', w.cells? base (a.add (i * E.size)) E.size = some cs' ∧ cs' = E.enc y ∧ D i = dat y ∧ okx y :=
      ⟨fun i => Classical.choose (each i), fun i => Classical.choose_spec (each i)⟩
    obtain ⟨X, hX⟩ := this
    have hlist : ∃ l : List α, l.length = len0 ∧ ∀ i, i < len0 → l[i]? = X i := by
      clear hcap hl hm hm' hall hlm each h1 h2 hb
      revert X
      induction len0 with
      | zero => exact fun X _ => ⟨[], rfl, fun i hi => absurd hi (by omega)⟩
      | succ k ih =>
        intro X hX
        obtain ⟨l, hl, hli⟩ := ih X (fun i hi => hX i (by omega))
        obtain ⟨y, hy, _⟩ := hX k (by omega)
        refine ⟨l ++ [y], by simp [hl], fun i hi => ?_⟩
        by_cases h : i < k
        · rw [List.getElem?_append_left (by omega), hli i h]
        · obtain rfl : i = k := by omega
          rw [List.getElem?_append_right (by omega), hl, hy]; simp
    obtain ⟨l, hll, hli⟩ := hlist
    have hX2 : ∀ (i : Nat) (x : α), l[i]? = some x → ∃ cs', w.cells? base (a.add (i * E.size)) E.size = some cs' ∧ cs' = E.enc x ∧ D i = dat x ∧ okx x := fun i x hix => by
      have hi : i < len0 := by have := (List.getElem?_eq_some_iff.1 hix).1; omega
      obtain ⟨y, hy, h⟩ := hX i hi
      rw [hli i hi, hy] at hix
      injection hix with hix
      subst hix
      exact h
    refine ⟨some a, l, cap0, by rw [hll], by omega, hcap, ?_, ?_, .inr ⟨by simp, ?_⟩⟩
    · intro hpos
      obtain ⟨b, off, spot⟩ := a
      have hcell : ∀ k x, l[k]? = some x → ∀ j u, (E.enc x)[j]? = some u → w.cell? (((⟨b, off, spot⟩ : Addr).add (k * E.size)).add j) = some u := fun k x hk j u hu => by
        obtain ⟨cs', g1, g2, _⟩ := hX2 k x hk
        obtain ⟨_, glen, gc⟩ := World.cells?_some g1
        have hj : j < E.size := by have := (List.getElem?_eq_some_iff.1 hu).1; rw [E.len] at this; exact this
        rw [gc j hj, g2, hu]
      obtain ⟨x0, hx0⟩ : ∃ x0, l[0]? = some x0 := ⟨l[0], List.getElem?_eq_getElem hpos⟩
      obtain ⟨u0, hu0⟩ : ∃ u0, (E.enc x0)[0]? = some u0 := by
        have := E.len x0; have := E.pos
        exact ⟨(E.enc x0)[0]'(by omega), List.getElem?_eq_getElem _⟩
      have g0 := hcell 0 x0 hx0 0 u0 hu0
      have hspot : spot = none := by simpa [Addr.add] using World.cell?_spot g0
      subst hspot
      refine ⟨b, off, rfl, ?_, fun k x hk j u hu => ?_⟩
      · simp only [add_plain, Nat.zero_mul, Nat.add_zero] at g0
        rcases Nat.lt_or_ge b w.heap.size with h | h
        · exact h
        · simp [World.cell?, Array.getElem?_eq_none h] at g0
      · have := hcell k x hk j u hu
        rwa [add_plain, add_plain] at this
    · intro x hx
      obtain ⟨i, hi⟩ := List.getElem?_of_mem hx
      obtain ⟨_, _, _, _, h⟩ := hX2 i x hi
      exact h
    · refine ⟨(List.range (m' - len0)).map (fun j => D (len0 + j)), ?_⟩
      rw [h1, show (List.range len0).map D = l.map dat from ?_]
      apply List.ext_getElem?
      intro i
      by_cases hi : i < len0
      · obtain ⟨y, hy, _, _, _, hD, _⟩ := hX i hi
        rw [← hli i hi] at hy
        simp [hi, hy, hD]
      · simp [hi, hll]

/-- The slice opened. -/
theorem open_list (O : OpenE enc P e E dat okx big bulk) (ht : P.underlying t = some (.slice e)) (hval : Value.okWide P w r b0 t v) (hd : DataW.Trod enc P w base spare held t v d ps) :
    ∃ (A : Option Addr) (l : List α) (c : Nat), v = .slice A l.length c ∧ l.length ≤ c ∧ c ≤ maxLen ∧ ReadL E w w.heap.size A l ∧ (∀ x ∈ l, okx x) ∧
      ((d = .nil ∧ A = none ∧ l = [] ∧ c = 0) ∨ A ≠ none ∧ ∃ sp, d = .slice (l.map dat) sp) := by
  obtain ⟨a0, len0, cap0, rfl⟩ := okWide_slice ht hval
  obtain ⟨m, hm⟩ := hd
  obtain ⟨A, l, c, h1, h2⟩ := open_list_cell O ht hm
  simp only [Value.cells, List.cons.injEq, and_true] at h1
  exact ⟨A, l, c, h1, h2⟩

theorem weightsAll_mem {H : Type} {P : Program} {e : TypeId} : ∀ {ds : List (DataW H)} {d : DataW H}, d ∈ ds → ∀ n ∈ d.weights P e, n ∈ DataW.weightsAll P e ds
  | _ :: _, _, h, n, hn => by
    simp only [DataW.weightsAll, List.mem_append]
    rcases List.mem_cons.1 h with rfl | h
    · exact Or.inl hn
    · exact Or.inr (weightsAll_mem h n hn)

/-- The first form's bound. -/
theorem sized_list (O : OpenE enc P e E dat okx big bulk) (ht : P.underlying t = some (.slice e)) {ts : List TypeId} {ds : List (DataW H)} (h : (DataW.weightsEach P ts ds).all (· ≤ reachBytes) = true)
    {j : Nat} {A : Option Addr} {c : Nat} {l : List α} (htj : ts[j]? = some t) (hdj : ds[j]? = some d)
    (hd : (d = .nil ∧ A = none ∧ l = [] ∧ c = 0) ∨ A ≠ none ∧ ∃ sp, d = .slice (l.map dat) sp) : l.length * P.bytesOf e ≤ reachBytes ∧ ∀ x ∈ l, big x := by
  rcases hd with ⟨_, _, rfl, _⟩ | ⟨_, sp, rfl⟩
  · simp
  · refine ⟨?_, fun x hx => O.weight x fun n hn => ?_⟩
    · have := sized_slice h htj hdj ht
      rw [List.length_map] at this
      exact Nat.le_trans (Nat.mul_le_mul_right _ (by omega)) this
    · refine of_decide_eq_true (List.all_eq_true.1 h n (DataW.weights_mem_each htj hdj _ ?_))
      simp only [DataW.weights, ht, List.mem_cons, List.mem_append]
      exact Or.inr (Or.inl (weightsAll_mem (List.mem_map.2 ⟨x, hx, rfl⟩) n hn))

theorem bulkAll_map (O : OpenE enc P e E dat okx big bulk) : ∀ (l : List α), Go.Proofs.YtbchkaoocobpfaaDoor.Rows.uptoBulkAll (l.map dat) = (l.map bulk).sum
  | [] => by simp [Go.Proofs.YtbchkaoocobpfaaDoor.Rows.uptoBulkAll]
  | x :: l => by simp [Go.Proofs.YtbchkaoocobpfaaDoor.Rows.uptoBulkAll, O.bulk, bulkAll_map O l]

/-- The second form's bound. -/
theorem bulk_list (O : OpenE enc P e E dat okx big bulk) {A : Option Addr} {c : Nat} {l : List α}
    (hd : (d = .nil ∧ A = none ∧ l = [] ∧ c = 0) ∨ A ≠ none ∧ ∃ sp, d = .slice (l.map dat) sp) : (l.map bulk).sum + 1 ≤ Go.Proofs.YtbchkaoocobpfaaDoor.Rows.uptoBulk d := by
  rcases hd with ⟨rfl, _, rfl, _⟩ | ⟨_, sp, rfl⟩
  · simp [Go.Proofs.YtbchkaoocobpfaaDoor.Rows.uptoBulk]
  · simp only [Go.Proofs.YtbchkaoocobpfaaDoor.Rows.uptoBulk, bulkAll_map O]
    omega
end
end Go.Larder
