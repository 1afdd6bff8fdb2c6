/- A slice of steps among the arguments, opened. -/
import Derived.Test.YtbchkaoocobpfaaDoorOpenM
namespace Go.Larder
open Go.RowKit Go.ChangeShapes Go.WideShapes Go.Deep
set_option linter.unusedVariables false
set_option linter.unusedSimpArgs false
/-- what an element reads as, in one world -/
structure OpenW {H : Type} (enc : TypeId × Value → H) (P : Program) (w : World) (base : Nat) (spare : Nat → Bool) (held : Bool) (e : TypeId) {α : Type} (E : ElemT α) (dat : α → DataW H) (okx : α → Prop) : Prop where
  size : P.cellsOf e = E.size
  op : ∀ (n : Nat) (cs : List Value) (y : DataW H × List MemPlace), DataW.trod enc P w base spare held n e cs = some y → ∃ x, cs = E.enc x ∧ y.1 = dat x ∧ okx x
section
variable {H : Type} {enc : TypeId × Value → H} {P : Program} {e : TypeId} {α : Type} {E : ElemT α} {dat : α → DataW H} {okx : α → Prop}
  {w : World} {base : Nat} {spare : Nat → Bool} {held : Bool} {r : Reach} {b0 : Nat} {t : TypeId} {v : Value} {d : DataW H} {ps : List MemPlace}
theorem open_list_w (O : OpenW enc P w base spare held e E dat okx) (ht : P.underlying t = some (.slice e)) {m : Nat} {cs0 : List Value} (hm : DataW.trod enc P w base spare held m t cs0 = some (d, ps)) :
    ∃ (A : Option Addr) (l : List α) (c : Nat), cs0 = [.slice A l.length c] ∧ l.length ≤ c ∧ c ≤ maxLen ∧ ReadL E w w.heap.size A l ∧ (∀ x ∈ l, okx x) ∧
      ((d = .nil ∧ A = none ∧ l = [] ∧ c = 0) ∨ A ≠ none ∧ ∃ sp, d = .slice (l.map dat) sp) := by
  rcases open_slice ht hm with ⟨hcs, hx⟩ | ⟨a, len0, cap0, m', n, D, Pl, hcs, hb, hl, hcap, hm', hx, hall⟩
  · subst hcs
    injection hx with h1 h2
    exact ⟨none, [], 0, rfl, by simp, by simp [maxLen], fun h => absurd h (by simp), by simp, .inl ⟨h1, rfl, rfl, rfl⟩⟩
  · subst hcs
    injection hx with h1 h2
    have hlm : len0 ≤ m' := by rw [hm']; split <;> omega
    have each : ∀ i, ∃ x : Option α, i < len0 → ∃ y, x = some y ∧ ∃ cs', w.cells? base (a.add (i * E.size)) E.size = some cs' ∧ cs' = E.enc y ∧ D i = dat y ∧ okx y := fun i => by
      by_cases hi : i < len0
      · obtain ⟨cs', g1, g2⟩ := hall i (by omega)
        obtain ⟨x, hx1, hx2, hx3⟩ := O.op _ _ _ g2
        rw [O.size] at g1
        exact ⟨some x, fun _ => ⟨x, rfl, cs', g1, hx1, hx2, hx3⟩⟩
      · exact ⟨none, fun h => absurd h hi⟩
    have : ∃ X : Nat → Option α, ∀ i, i < len0 → ∃ y, X i = some y ∧ ∃ cs', w.cells? base (a.add (i * E.size)) E.size = some cs' ∧ cs' = E.enc y ∧ D i = dat y ∧ okx y :=
      ⟨fun i => Classical.choose (each i), fun i => Classical.choose_spec (each i)⟩
    obtain ⟨X, hX⟩ := this
    have hlist : ∃ l : List α, l.length = len0 ∧ ∀ i, i < len0 → l[i]? = X i := by
      clear hcap hl hm hm' hall hlm each h1 h2 hb
      revert X
      induction len0 with
      | zero => exact fun X _ => ⟨[], rfl, fun i hi => absurd hi (by omega)⟩
      | succ k ih =>
        intro X hX
        obtain ⟨l, hl, hli⟩ := ih X (fun i hi => hX i (by omega))
        obtain ⟨y, hy, _⟩ := hX k (by omega)
        refine ⟨l ++ [y], by simp [hl], fun i hi => ?_⟩
        by_cases h : i < k
        · rw [List.getElem?_append_left (by omega), hli i h]
        · obtain rfl : i = k := by omega
          rw [List.getElem?_append_right (by omega), hl, hy]; simp
    obtain ⟨l, hll, hli⟩ := hlist
    have hX2 : ∀ (i : Nat) (x : α), l[i]? = some x → ∃ cs', w.cells? base (a.add (i * E.size)) E.size = some cs' ∧ cs' = E.enc x ∧ D i = dat x ∧ okx x := fun i x hix => by
      have hi : i < len0 := by have := (List.getElem?_eq_some_iff.1 hix).1; omega
      obtain ⟨y, hy, h⟩ := hX i hi
      rw [hli i hi, hy] at hix
      injection hix with hix
      subst hix
      exact h
    refine ⟨some a, l, cap0, by rw [hll], by omega, hcap, ?_, ?_, .inr ⟨by simp, ?_⟩⟩
    · intro hpos
      obtain ⟨b, off, spot⟩ := a
      have hcell : ∀ k x, l[k]? = some x → ∀ j u, (E.enc x)[j]? = some u → w.cell? (((⟨b, off, spot⟩ : Addr).add (k * E.size)).add j) = some u := fun k x hk j u hu => by
        obtain ⟨cs', g1, g2, _⟩ := hX2 k x hk
        obtain ⟨_, glen, gc⟩ := World.cells?_some g1
        have hj : j < E.size := by have := (List.getElem?_eq_some_iff.1 hu).1; rw [E.len] at this; exact this
        rw [gc j hj, g2, hu]
      obtain ⟨x0, hx0⟩ : ∃ x0, l[0]? = some x0 := ⟨l[0], List.getElem?_eq_getElem hpos⟩
      obtain ⟨u0, hu0⟩ : ∃ u0, (E.enc x0)[0]? = some u0 := by
        have := E.len x0; have := E.pos
        exact ⟨(E.enc x0)[0]'(by omega), List.getElem?_eq_getElem _⟩
      have g0 := hcell 0 x0 hx0 0 u0 hu0
      have hspot : spot = none := by simpa [Addr.add] using World.cell?_spot g0
      subst hspot
      refine ⟨b, off, rfl, ?_, fun k x hk j u hu => ?_⟩
      · simp only [add_plain, Nat.zero_mul, Nat.add_zero] at g0
        rcases Nat.lt_or_ge b w.heap.size with h | h
        · exact h
        · simp [World.cell?, Array.getElem?_eq_none h] at g0
      · have := hcell k x hk j u hu
        rwa [add_plain, add_plain] at this
    · intro x hx
      obtain ⟨i, hi⟩ := List.getElem?_of_mem hx
      obtain ⟨_, _, _, _, h⟩ := hX2 i x hi
      exact h
    · refine ⟨(List.range (m' - len0)).map (fun j => D (len0 + j)), ?_⟩
      rw [h1, show (List.range len0).map D = l.map dat from ?_]
      apply List.ext_getElem?
      intro i
      by_cases hi : i < len0
      · obtain ⟨y, hy, _, _, _, hD, _⟩ := hX i hi
        rw [← hli i hi] at hy
        simp [hi, hy, hD]
      · simp [hi, hll]

theorem bulkAll_w (bulk : α → Nat) : ∀ (l : List α), (∀ x ∈ l, bulk x ≤ Go.Proofs.YtbchkaoocobpfaaDoor.Rows.uptoBulk (dat x)) → (l.map bulk).sum ≤ Go.Proofs.YtbchkaoocobpfaaDoor.Rows.uptoBulkAll (l.map dat)
  | [], _ => by simp [Go.Proofs.YtbchkaoocobpfaaDoor.Rows.uptoBulkAll]
  | x :: l, h => by
    have h1 := h x (by simp)
    have h2 := bulkAll_w bulk l (fun y hy => h y (List.mem_cons_of_mem _ hy))
    simp only [List.map_cons, List.sum_cons, Go.Proofs.YtbchkaoocobpfaaDoor.Rows.uptoBulkAll]
    omega
end
/-- a step of a statement: its number, two numbers, two texts, a list of texts, and what is left -/
structure Stp where
  kd : Int
  a : Int
  b : Int
  s : List UInt8
  t : List UInt8
  lA : Option Addr
  ls : List (List UInt8)
  lc : Nat
  rest : List Value
  len : rest.length = 16
  one : ∀ u ∈ rest, u.oneCell' = true
def encSt : ElemT Stp := ⟨fun x => [.int .i64 x.kd, .int .i64 x.a, .int .i64 x.b, S x.s, S x.t, .slice x.lA x.ls.length x.lc] ++ x.rest, 22, fun x => by simp [x.len], fun x u hu => by
  rcases List.mem_append.1 hu with hu | hu
  · simp at hu
    rcases hu with rfl | rfl | rfl | rfl | rfl | rfl <;> rfl
  · exact x.one u hu, by omega⟩
def bulkSt (x : Stp) : Nat := x.s.length + x.t.length + (x.ls.map fun s => s.length + 1).sum + 10
theorem ReadL.mapped {α β : Type} {E : ElemT α} {E' : ElemT β} {w : World} {B : Nat} {A : Option Addr} {l : List α} (f : α → β) (hs : E.size = E'.size) (he : ∀ x, E'.enc (f x) = E.enc x) (h : ReadL E w B A l) : ReadL E' w B A (l.map f) := fun hn => by
  rw [List.length_map] at hn
  obtain ⟨b, off, hA, hb, hc⟩ := h hn
  refine ⟨b, off, hA, hb, fun k y hy j u hu => ?_⟩
  rw [List.getElem?_map, Option.map_eq_some_iff] at hy
  obtain ⟨x, hx, rfl⟩ := hy
  rw [← hs]
  exact hc k x hx j u (by rw [← he]; exact hu)
end Go.Larder
namespace Go.Proofs.YtbchkaoocobpfaaDoor
open Go.RowKit Go.Larder
set_option linter.unusedVariables false
set_option linter.unusedSimpArgs false
open Go.ChangeShapes Go.WideShapes Go.Deep
section
variable {H : Type} {enc : TypeId × Value → H} {w : World} {base : Nat} {spare : Nat → Bool} {held : Bool} {r : Reach} {b0 : Nat} {v : Value} {d : DataW H} {p : List MemPlace} {n : Nat} {c : Value} {y : DataW H × List MemPlace}
theorem uptoB_pos (d : DataW H) : 1 ≤ Go.Proofs.YtbchkaoocobpfaaDoor.Rows.uptoBulk d := by
  cases d <;> (first | (rename_i l; cases l <;> (simp [Go.Proofs.YtbchkaoocobpfaaDoor.Rows.uptoBulk] <;> omega)) | (simp [Go.Proofs.YtbchkaoocobpfaaDoor.Rows.uptoBulk]) | (simp [Go.Proofs.YtbchkaoocobpfaaDoor.Rows.uptoBulk]; omega))
theorem one_str (h : DataW.trod enc Tryd.prog w base spare held n 9 [c] = some y) : c.oneCell' = true := by
  obtain ⟨s, e, _, _⟩ := DataW.trod_string Tryd.underlying9 h
  simp only [List.cons.injEq, and_true] at e
  subst e; rfl
theorem one_int (h : DataW.trod enc Tryd.prog w base spare held n 3 [c] = some y) : c.oneCell' = true := by
  obtain ⟨s, e, _, _⟩ := DataW.trod_int Tryd.underlying3 h
  simp only [List.cons.injEq, and_true] at e
  subst e; rfl
theorem one_flds (h : DataW.trod enc Tryd.prog w base spare held n 38 [c] = some y) : c.oneCell' = true := by
  obtain ⟨A, l, cp, he, _⟩ := open_list_cell (d := y.1) (ps := y.2) (OpenE.texts (enc := enc) (f0 := _) (f1 := _) Tryd.underlying167 (by kernel_rfl) Tryd.underlying9 Tryd.underlying9 rfl rfl (by kernel_rfl) (by kernel_rfl)) Tryd.underlying38 h
  simp only [List.cons.injEq, and_true] at he
  subst he; rfl
set_option maxRecDepth 100000 in
theorem one_req {c0 c1 c2 c3 : Value} (h : DataW.trod enc Tryd.prog w base spare held n 40 [c0, c1, c2, c3] = some y) : ∀ u ∈ [c0, c1, c2, c3], u.oneCell' = true := by
  have k0 : Program.cellsOf Tryd.prog 9 = 1 := by kernel_rfl
  have k2 : Program.cellsOf Tryd.prog 38 = 1 := by kernel_rfl
  obtain ⟨xs, m, _, _, _, hlen, hg⟩ := DataW.trod_struct Tryd.underlying40 h
  have hl : xs.length = 4 := hlen
  match xs, hl with
  | [z0, z1, z2, z3], _ =>
    have g0 : DataW.trod enc Tryd.prog w base spare held m 9 (List.take (Program.cellsOf Tryd.prog 9) (List.drop 0 [c0, c1, c2, c3])) = some z0 := hg 0 _ rfl
    have g1 : DataW.trod enc Tryd.prog w base spare held m 9 (List.take (Program.cellsOf Tryd.prog 9) (List.drop 1 [c0, c1, c2, c3])) = some z1 := hg 1 _ rfl
    have g2 : DataW.trod enc Tryd.prog w base spare held m 38 (List.take (Program.cellsOf Tryd.prog 38) (List.drop 2 [c0, c1, c2, c3])) = some z2 := hg 2 _ rfl
    have g3 : DataW.trod enc Tryd.prog w base spare held m 9 (List.take (Program.cellsOf Tryd.prog 9) (List.drop 3 [c0, c1, c2, c3])) = some z3 := hg 3 _ rfl
    rw [k0] at g0 g1 g3
    rw [k2] at g2
    have o0 := one_str g0
    have o1 := one_str g1
    have o2 := one_flds g2
    have o3 := one_str g3
    intro u hu
    simp only [List.mem_cons, List.not_mem_nil, or_false] at hu
    rcases hu with rfl | rfl | rfl | rfl <;> assumption
set_option maxRecDepth 100000 in
theorem one_resp {c0 c1 c2 c3 : Value} (h : DataW.trod enc Tryd.prog w base spare held n 42 [c0, c1, c2, c3] = some y) : ∀ u ∈ [c0, c1, c2, c3], u.oneCell' = true := by
  have k0 : Program.cellsOf Tryd.prog 9 = 1 := by kernel_rfl
  have k1 : Program.cellsOf Tryd.prog 3 = 1 := by kernel_rfl
  have k2 : Program.cellsOf Tryd.prog 38 = 1 := by kernel_rfl
  obtain ⟨xs, m, _, _, _, hlen, hg⟩ := DataW.trod_struct Tryd.underlying42 h
  have hl : xs.length = 4 := hlen
  match xs, hl with
  | [z0, z1, z2, z3], _ =>
    have g0 : DataW.trod enc Tryd.prog w base spare held m 3 (List.take (Program.cellsOf Tryd.prog 3) (List.drop 0 [c0, c1, c2, c3])) = some z0 := hg 0 _ rfl
    have g1 : DataW.trod enc Tryd.prog w base spare held m 9 (List.take (Program.cellsOf Tryd.prog 9) (List.drop 1 [c0, c1, c2, c3])) = some z1 := hg 1 _ rfl
    have g2 : DataW.trod enc Tryd.prog w base spare held m 38 (List.take (Program.cellsOf Tryd.prog 38) (List.drop 2 [c0, c1, c2, c3])) = some z2 := hg 2 _ rfl
    have g3 : DataW.trod enc Tryd.prog w base spare held m 9 (List.take (Program.cellsOf Tryd.prog 9) (List.drop 3 [c0, c1, c2, c3])) = some z3 := hg 3 _ rfl
    rw [k1] at g0
    rw [k0] at g1 g3
    rw [k2] at g2
    have o0 := one_int g0
    have o1 := one_str g1
    have o2 := one_flds g2
    have o3 := one_str g3
    intro u hu
    simp only [List.mem_cons, List.not_mem_nil, or_false] at hu
    rcases hu with rfl | rfl | rfl | rfl <;> assumption
set_option maxRecDepth 100000 in
theorem one_held {c0 c1 c2 c3 c4 c5 c6 c7 c8 c9 c10 : Value} (h : DataW.trod enc Tryd.prog w base spare held n 44 [c0, c1, c2, c3, c4, c5, c6, c7, c8, c9, c10] = some y) : ∀ u ∈ [c0, c1, c2, c3, c4, c5, c6, c7, c8, c9, c10], u.oneCell' = true := by
  have k1 : Program.cellsOf Tryd.prog 3 = 1 := by kernel_rfl
  have k4 : Program.cellsOf Tryd.prog 40 = 4 := by kernel_rfl
  have k5 : Program.cellsOf Tryd.prog 42 = 4 := by kernel_rfl
  obtain ⟨xs, m, _, _, _, hlen, hg⟩ := DataW.trod_struct Tryd.underlying44 h
  have hl : xs.length = 5 := hlen
  match xs, hl with
  | [z0, z1, z2, z3, z4], _ =>
    have g0 : DataW.trod enc Tryd.prog w base spare held m 40 (List.take (Program.cellsOf Tryd.prog 40) (List.drop 0 [c0, c1, c2, c3, c4, c5, c6, c7, c8, c9, c10])) = some z0 := hg 0 _ rfl
    have g1 : DataW.trod enc Tryd.prog w base spare held m 42 (List.take (Program.cellsOf Tryd.prog 42) (List.drop 4 [c0, c1, c2, c3, c4, c5, c6, c7, c8, c9, c10])) = some z1 := hg 1 _ rfl
    have g2 : DataW.trod enc Tryd.prog w base spare held m 3 (List.take (Program.cellsOf Tryd.prog 3) (List.drop 8 [c0, c1, c2, c3, c4, c5, c6, c7, c8, c9, c10])) = some z2 := hg 2 _ rfl
    have g3 : DataW.trod enc Tryd.prog w base spare held m 3 (List.take (Program.cellsOf Tryd.prog 3) (List.drop 9 [c0, c1, c2, c3, c4, c5, c6, c7, c8, c9, c10])) = some z3 := hg 3 _ rfl
    have g4 : DataW.trod enc Tryd.prog w base spare held m 3 (List.take (Program.cellsOf Tryd.prog 3) (List.drop 10 [c0, c1, c2, c3, c4, c5, c6, c7, c8, c9, c10])) = some z4 := hg 4 _ rfl
    rw [k4] at g0
    rw [k5] at g1
    rw [k1] at g2 g3 g4
    have o0 := one_req g0
    have o1 := one_resp g1
    have o2 := one_int g2
    have o3 := one_int g3
    have o4 := one_int g4
    intro u hu
    have hu2 : u ∈ [c0, c1, c2, c3] ∨ u ∈ [c4, c5, c6, c7] ∨ u = c8 ∨ u = c9 ∨ u = c10 := by
      simp only [List.mem_cons, List.not_mem_nil, or_false] at hu ⊢
      rcases hu with h | h | h | h | h | h | h | h | h | h | h <;> simp [h]
    rcases hu2 with h | h | rfl | rfl | rfl
    · exact o0 u h
    · exact o1 u h
    · exact o2
    · exact o3
    · exact o4
def stpOk (w : World) (x : Stp) : Prop := (-9223372036854775808 ≤ x.kd ∧ x.kd ≤ 9223372036854775807) ∧ (-9223372036854775808 ≤ x.a ∧ x.a ≤ 9223372036854775807) ∧ (-9223372036854775808 ≤ x.b ∧ x.b ≤ 9223372036854775807) ∧ ReadL encS w w.heap.size x.lA x.ls
set_option maxRecDepth 100000 in
set_option maxHeartbeats 1000000 in
theorem openW_steps : OpenW enc Tryd.prog w base spare held 46 (⟨fun x : Stp × DataW H => encSt.enc x.1, 22, fun x => encSt.len x.1, fun x => encSt.one x.1, by omega⟩ : ElemT (Stp × DataW H)) (fun x => x.2) (fun x => stpOk w x.1 ∧ bulkSt x.1 ≤ Go.Proofs.YtbchkaoocobpfaaDoor.Rows.uptoBulk x.2) where
  size := by kernel_rfl
  op := fun n cs y h => by
    have k1 : Program.cellsOf Tryd.prog 3 = 1 := by kernel_rfl
    have k0 : Program.cellsOf Tryd.prog 9 = 1 := by kernel_rfl
    have k2 : Program.cellsOf Tryd.prog 22 = 1 := by kernel_rfl
    have k3 : Program.cellsOf Tryd.prog 38 = 1 := by kernel_rfl
    have k4 : Program.cellsOf Tryd.prog 40 = 4 := by kernel_rfl
    have k5 : Program.cellsOf Tryd.prog 44 = 11 := by kernel_rfl
    have k22 : Program.cellsOf Tryd.prog 46 = 22 := by kernel_rfl
    obtain ⟨xs, m, _, hx, hcs, hlen, hg⟩ := DataW.trod_struct Tryd.underlying46 h
    have hl : xs.length = 9 := hlen
    rw [k22] at hcs
    match cs, hcs with
    | [c0, c1, c2, c3, c4, c5, c6, c7, c8, c9, c10, c11, c12, c13, c14, c15, c16, c17, c18, c19, c20, c21], _ =>
      match xs, hl with
      | [z0, z1, z2, z3, z4, z5, z6, z7, z8], _ =>
        have g0 : DataW.trod enc Tryd.prog w base spare held m 3 (List.take (Program.cellsOf Tryd.prog 3) (List.drop 0 [c0, c1, c2, c3, c4, c5, c6, c7, c8, c9, c10, c11, c12, c13, c14, c15, c16, c17, c18, c19, c20, c21])) = some z0 := hg 0 _ rfl
        have g1 : DataW.trod enc Tryd.prog w base spare held m 3 (List.take (Program.cellsOf Tryd.prog 3) (List.drop 1 [c0, c1, c2, c3, c4, c5, c6, c7, c8, c9, c10, c11, c12, c13, c14, c15, c16, c17, c18, c19, c20, c21])) = some z1 := hg 1 _ rfl
        have g2 : DataW.trod enc Tryd.prog w base spare held m 3 (List.take (Program.cellsOf Tryd.prog 3) (List.drop 2 [c0, c1, c2, c3, c4, c5, c6, c7, c8, c9, c10, c11, c12, c13, c14, c15, c16, c17, c18, c19, c20, c21])) = some z2 := hg 2 _ rfl
        have g3 : DataW.trod enc Tryd.prog w base spare held m 9 (List.take (Program.cellsOf Tryd.prog 9) (List.drop 3 [c0, c1, c2, c3, c4, c5, c6, c7, c8, c9, c10, c11, c12, c13, c14, c15, c16, c17, c18, c19, c20, c21])) = some z3 := hg 3 _ rfl
        have g4 : DataW.trod enc Tryd.prog w base spare held m 9 (List.take (Program.cellsOf Tryd.prog 9) (List.drop 4 [c0, c1, c2, c3, c4, c5, c6, c7, c8, c9, c10, c11, c12, c13, c14, c15, c16, c17, c18, c19, c20, c21])) = some z4 := hg 4 _ rfl
        have g5 : DataW.trod enc Tryd.prog w base spare held m 22 (List.take (Program.cellsOf Tryd.prog 22) (List.drop 5 [c0, c1, c2, c3, c4, c5, c6, c7, c8, c9, c10, c11, c12, c13, c14, c15, c16, c17, c18, c19, c20, c21])) = some z5 := hg 5 _ rfl
        have g6 : DataW.trod enc Tryd.prog w base spare held m 40 (List.take (Program.cellsOf Tryd.prog 40) (List.drop 6 [c0, c1, c2, c3, c4, c5, c6, c7, c8, c9, c10, c11, c12, c13, c14, c15, c16, c17, c18, c19, c20, c21])) = some z6 := hg 6 _ rfl
        have g7 : DataW.trod enc Tryd.prog w base spare held m 44 (List.take (Program.cellsOf Tryd.prog 44) (List.drop 10 [c0, c1, c2, c3, c4, c5, c6, c7, c8, c9, c10, c11, c12, c13, c14, c15, c16, c17, c18, c19, c20, c21])) = some z7 := hg 7 _ rfl
        have g8 : DataW.trod enc Tryd.prog w base spare held m 38 (List.take (Program.cellsOf Tryd.prog 38) (List.drop 21 [c0, c1, c2, c3, c4, c5, c6, c7, c8, c9, c10, c11, c12, c13, c14, c15, c16, c17, c18, c19, c20, c21])) = some z8 := hg 8 _ rfl
        rw [k1] at g0 g1 g2
        rw [k0] at g3 g4
        rw [k2] at g5
        rw [k3] at g8
        rw [k4] at g6
        rw [k5] at g7
        change DataW.trod enc Tryd.prog w base spare held m 3 [c0] = _ at g0
        change DataW.trod enc Tryd.prog w base spare held m 3 [c1] = _ at g1
        change DataW.trod enc Tryd.prog w base spare held m 3 [c2] = _ at g2
        change DataW.trod enc Tryd.prog w base spare held m 9 [c3] = _ at g3
        change DataW.trod enc Tryd.prog w base spare held m 9 [c4] = _ at g4
        change DataW.trod enc Tryd.prog w base spare held m 22 [c5] = _ at g5
        change DataW.trod enc Tryd.prog w base spare held m 40 [c6, c7, c8, c9] = _ at g6
        change DataW.trod enc Tryd.prog w base spare held m 44 [c10, c11, c12, c13, c14, c15, c16, c17, c18, c19, c20] = _ at g7
        change DataW.trod enc Tryd.prog w base spare held m 38 [c21] = _ at g8
        have o6 := one_req g6
        have o7 := one_held g7
        have o8 := one_flds g8
        obtain ⟨kd, e0, hz0, w0⟩ := DataW.trod_int Tryd.underlying3 g0
        obtain ⟨ka, e1, hz1, w1⟩ := DataW.trod_int Tryd.underlying3 g1
        obtain ⟨kb, e2, hz2, w2⟩ := DataW.trod_int Tryd.underlying3 g2
        obtain ⟨s3, e3, hz3, w3⟩ := DataW.trod_string Tryd.underlying9 g3
        obtain ⟨s4, e4, hz4, w4⟩ := DataW.trod_string Tryd.underlying9 g4
        obtain ⟨A, ls, lc, he, hlc, hcm, hrd, _, hdd⟩ := open_list_cell (d := z5.1) (ps := z5.2) (OpenE.string (enc := enc) Tryd.underlying9 (by kernel_rfl)) Tryd.underlying22 g5
        have hb := bulk_list (enc := enc) (OpenE.string (P := Tryd.prog) Tryd.underlying9 (by kernel_rfl)) hdd
        simp only [List.cons.injEq, and_true] at e0 e1 e2 e3 e4 he
        subst e0 e1 e2 e3 e4 he
        obtain ⟨⟨s3⟩⟩ := s3
        obtain ⟨⟨s4⟩⟩ := s4
        have hone : ∀ u ∈ [c6, c7, c8, c9, c10, c11, c12, c13, c14, c15, c16, c17, c18, c19, c20, c21], u.oneCell' = true := by
          intro u hu
          have hu2 : u ∈ [c6, c7, c8, c9] ∨ u ∈ [c10, c11, c12, c13, c14, c15, c16, c17, c18, c19, c20] ∨ u = c21 := by
            simp only [List.mem_cons, List.not_mem_nil, or_false] at hu ⊢
            rcases hu with h | h | h | h | h | h | h | h | h | h | h | h | h | h | h | h <;> simp [h]
          rcases hu2 with h | h | rfl
          · exact o6 u h
          · exact o7 u h
          · exact o8
        refine ⟨(⟨kd, ka, kb, s3, s4, A, ls, lc, [c6, c7, c8, c9, c10, c11, c12, c13, c14, c15, c16, c17, c18, c19, c20, c21], rfl, hone⟩, y.1), rfl, rfl, ⟨bounds_i64 w0, bounds_i64 w1, bounds_i64 w2, hrd⟩, ?_⟩
        subst hx
        simp only [List.map_cons, List.map_nil, bulkSt, Go.Proofs.YtbchkaoocobpfaaDoor.Rows.uptoBulk, Go.Proofs.YtbchkaoocobpfaaDoor.Rows.uptoBulkAll, hz0, hz1, hz2, hz3, hz4]
        have p6 : 1 ≤ Go.Proofs.YtbchkaoocobpfaaDoor.Rows.uptoBulk z6.1 := uptoB_pos _
        have p7 : 1 ≤ Go.Proofs.YtbchkaoocobpfaaDoor.Rows.uptoBulk z7.1 := uptoB_pos _
        have p8 : 1 ≤ Go.Proofs.YtbchkaoocobpfaaDoor.Rows.uptoBulk z8.1 := uptoB_pos _
        omega
set_option maxRecDepth 100000 in
theorem open_steps (hv : Value.okWide Tryd.prog w r b0 30 v) (h : DataW.Trod enc Tryd.prog w base spare held 30 v d p) :
    ∃ (A : Option Addr) (l : List Stp) (c : Nat), v = .slice A l.length c ∧ ReadL encSt w w.heap.size A l ∧ (∀ x ∈ l, stpOk w x) ∧ (l.map bulkSt).sum ≤ Go.Proofs.YtbchkaoocobpfaaDoor.Rows.uptoBulk d := by
  obtain ⟨a0, len0, cap0, rfl⟩ := okWide_slice Tryd.underlying30 hv
  obtain ⟨m, hm⟩ := h
  obtain ⟨A, l, c, h1, _, _, h2, h3, h4⟩ := open_list_w (openW_steps (H := H)) Tryd.underlying30 hm
  simp only [Value.cells, List.cons.injEq, and_true] at h1
  refine ⟨A, l.map Prod.fst, c, by rw [List.length_map]; exact h1, ReadL.mapped Prod.fst rfl (fun _ => rfl) h2, fun x hx => ?_, ?_⟩
  · obtain ⟨y, hy, rfl⟩ := List.mem_map.1 hx
    exact (h3 y hy).1
  · rcases h4 with ⟨rfl, _, rfl, _⟩ | ⟨_, sp, rfl⟩
    · simp
    · have := bulkAll_w (dat := fun x : Stp × DataW H => x.2) (fun x => bulkSt x.1) l (fun x hx => (h3 x hx).2)
      rw [List.map_map]
      simp only [Go.Proofs.YtbchkaoocobpfaaDoor.Rows.uptoBulk]
      have e : (bulkSt ∘ Prod.fst : Stp × DataW H → Nat) = fun x => bulkSt x.1 := rfl
      rw [e]
      omega
end
end Go.Proofs.YtbchkaoocobpfaaDoor
