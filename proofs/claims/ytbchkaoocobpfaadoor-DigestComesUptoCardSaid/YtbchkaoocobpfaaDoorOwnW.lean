/- A row of bytes seen from a place on (a window that a slice has moved along), and a text appended to it. No program in sight. -/
import Derived.Test.YtbchkaoocobpfaaDoorChg
import Derived.Test.YtbchkaoocobpfaaDoorAppS
import Derived.Lib.AppendStr
namespace Go.Larder
open Go.RowKit
set_option linter.unusedVariables false
set_option linter.unusedSimpArgs false
structure OwnW (w : World) (base : Nat) (e : TypeId) (A : Option Addr) (c : Nat) (l : List UInt8) : Prop where
  le : l.length ≤ c
  body : (A = none ∧ c = 0) ∨ ∃ g off cur, A = some ⟨g, off, none⟩ ∧ base ≤ g ∧ w.heap[g]? = some (.cells cur e (0, 0)) ∧ off + c ≤ cur.size ∧ (cur.toList.drop off).take l.length = Lib.byteCells l
variable {w w' : World} {base c : Nat} {e : TypeId} {A : Option Addr} {l : List UInt8}
theorem OwnW.nil (w : World) (base : Nat) (e : TypeId) : OwnW w base e none 0 [] := ⟨Nat.le_refl _, .inl ⟨rfl, rfl⟩⟩
theorem OwnW.lt (h : OwnW w base e A c l) {a : Addr} (ha : A = some a) : base ≤ a.block ∧ a.block < w.heap.size := by
  subst ha
  rcases h.body with ⟨h0, _⟩ | ⟨g, off, cur, h1, h2, h3, _⟩
  · cases h0
  · injection h1 with h1
    subst h1
    exact ⟨h2, (Array.getElem?_eq_some_iff.1 h3).1⟩
theorem OwnW.keep (h : OwnW w base e A c l) (hk : ∀ a, A = some a → w'.heap[a.block]? = w.heap[a.block]?) : OwnW w' base e A c l := by
  refine ⟨h.le, ?_⟩
  rcases h.body with h0 | ⟨g, off, cur, h1, h2, h3, h4⟩
  · exact .inl h0
  · exact .inr ⟨g, off, cur, h1, h2, (hk _ h1).trans h3, h4⟩
theorem OwnW.below (h : OwnW w base e A c l) (hb : Below w.heap.size w w') : OwnW w' base e A c l := h.keep fun a ha => hb.block _ (h.lt ha).2
theorem OwnW.cells (h : OwnW w base e A c l) : ∀ g off, A = some ⟨g, off, none⟩ → ∀ j v, (Lib.byteCells l)[j]? = some v → w.cell? ((⟨g, off, none⟩ : Addr).add j) = some v := by
  intro g off hA j v hv
  rcases h.body with ⟨h0, _⟩ | ⟨g', off', cur, h1, h2, h3, h4, h5⟩
  · rw [h0] at hA; cases hA
  · rw [hA] at h1
    injection h1 with h1
    injection h1 with h1 h1'
    subst h1 h1'
    have hadd : (⟨g, off, none⟩ : Addr).add j = ⟨g, off + j, none⟩ := by unfold Addr.add; split <;> simp_all
    rw [hadd, cell_of_row _ _ _ _ _ _ h3]
    have hj : j < l.length := by
      have := (List.getElem?_eq_some_iff.1 hv).1
      rwa [Lib.byteCells_length] at this
    rw [← h5, List.getElem?_take, if_pos hj, List.getElem?_drop] at hv
    rw [← Array.getElem?_toList]
    exact hv
theorem OwnW.read (h : OwnW w base e A c l) : ReadL encB w w.heap.size A l := by
  intro hn
  rcases h.body with ⟨h0, h0'⟩ | ⟨g, off, cur, h1, h2, h3, h4, h5⟩
  · have := h.le
    omega
  · refine ⟨g, off, h1, (Array.getElem?_eq_some_iff.1 h3).1, fun k y hy r u hu => ?_⟩
    have hr : r = 0 := by
      have := (List.getElem?_eq_some_iff.1 hu).1
      simp [encB] at this; exact this
    subst hr
    have hu' : Value.int .u8 (y.toNat : Int) = u := by simpa [encB] using hu
    have := h.cells g off h1 k u (by unfold Lib.byteCells; rw [List.getElem?_map, hy, ← hu']; rfl)
    have hadd : (⟨g, off, none⟩ : Addr).add k = ⟨g, off + k, none⟩ := by unfold Addr.add; split <;> simp_all
    rw [hadd] at this
    rw [show off + k * encB.size + 0 = off + k from by show off + k * 1 + 0 = _; omega]
    exact this
theorem OwnW.drop (h : OwnW w base e A c l) {k : Nat} (hk : k ≤ l.length) : OwnW w base e (A.map fun a => a.add k) (c - k) (l.drop k) := by
  have hle := h.le
  refine ⟨by rw [List.length_drop]; omega, ?_⟩
  rcases h.body with ⟨h0, h0'⟩ | ⟨g, off, cur, h1, h2, h3, h4, h5⟩
  · exact .inl ⟨by rw [h0]; rfl, by omega⟩
  · have hadd : (⟨g, off, none⟩ : Addr).add k = ⟨g, off + k, none⟩ := by unfold Addr.add; split <;> simp_all
    refine .inr ⟨g, off + k, cur, by rw [h1, Option.map_some, hadd], h2, h3, by omega, ?_⟩
    have := congrArg (List.drop k) h5
    rw [List.drop_take, List.drop_drop] at this
    rw [List.length_drop, this]
    unfold Lib.byteCells
    rw [List.map_drop]
theorem run_append_room_str {P : Program} {w : World} (t u ty e : TypeId) (i : TypeInfo) (ht : P.underlying t = some (.slice e)) (hu : P.underlying u = some .string) (hi : P.info? e = some i) (hs1 : i.size = 1)
    (g off sLen sCap : Nat) (cur : Array Value) (hg : w.heap[g]? = some (.cells cur e (0, 0))) (s : ByteArray)
    (hroom : sLen + s.size ≤ sCap) (hfit : off + sLen + s.size ≤ cur.size) :
    (Builtin.append_ #[t, u] ty #[.slice (some ⟨g, off, none⟩) sLen sCap, .string s]).run P w =
      .ok (.slice (some ⟨g, off, none⟩) (sLen + s.size) sCap) (w.setRow g (cur.toList.take (off + sLen) ++ Lib.strCells s ++ cur.toList.drop (off + sLen + s.size)).toArray) := by
  have hf := Lib.run_firstCells_string (P := P) w 1 s
  have hst := run_storeCells_at P g (off + sLen) e (Lib.strCells s) 0 cur w hg (by simpa [Lib.strCells_length] using hfit) (Lib.strCells_oneCell s)
  simp only [Nat.add_zero, Lib.strCells_length] at hst
  have hadd : (⟨g, off, none⟩ : Addr).add sLen = ⟨g, off + sLen, none⟩ := by unfold Addr.add; split <;> simp_all
  simp [Builtin.append_, run_underlying ht, run_underlying hu, sizeOf, typeInfo, hi, hs1, Builtin.lenOf, hroom, hf, hadd, hst]
theorem strCells_S (m : List UInt8) : Lib.strCells ⟨m.toArray⟩ = Lib.byteCells m := by simp [Lib.strCells, Lib.byteCells]
theorem byteCells_app (a b : List UInt8) : Lib.byteCells (a ++ b) = Lib.byteCells a ++ Lib.byteCells b := by simp [Lib.byteCells]
theorem own_new {w : World} {g base cap : Nat} {e : TypeId} {l : List UInt8} {rest : List Value} {cur : Array Value} (hh : w.heap[g]? = some (.cells cur e (0, 0))) (hc : cur.toList = Lib.byteCells l ++ rest) (hs : cap ≤ cur.size) (hl : l.length ≤ cap) (hb : base ≤ g) : OwnW w base e (some ⟨g, 0, none⟩) cap l :=
  ⟨hl, .inr ⟨g, 0, cur, rfl, hb, hh, by omega, by rw [List.drop_zero, hc, ← Lib.byteCells_length l, List.take_left]⟩⟩
theorem OwnW.app {P : Program} {w : World} {t tS ty e : TypeId} {base c : Nat} {A : Option Addr} {l : List UInt8}
    (ht : P.underlying t = some (.slice e)) (hS : P.underlying tS = some .string) (hinfo : (P.info? e).map (fun i => (i.zero, i.size, i.bytes)) = some (some (.int .u8 0), 1, 1))
    (h : OwnW w base e A c l) (m : List UInt8) (hb : l.length + m.length ≤ 140737488355328) (hbase : base ≤ w.heap.size) :
    ∃ A' c' w', (Builtin.append_ #[t, tS] ty #[.slice A l.length c, S m]).run P w = .ok (.slice A' (l.length + m.length) c') w' ∧ OwnW w' base e A' c' (l ++ m) ∧ w.grownBy w' (blkOf A) := by
  obtain ⟨i, hi, hz, hz1, hz2⟩ := info_parts hinfo
  have e1 : (⟨m.toArray⟩ : ByteArray).size = m.length := ba_size m
  have hzc : (Value.int IntKind.u8 0).cells.size = 1 := rfl
  have hle := h.le
  rcases h.body with ⟨rfl, rfl⟩ | ⟨g, off, cur, rfl, hbg, hg, hcs, htk⟩
  · obtain rfl : l = [] := List.eq_nil_of_length_eq_zero (by omega)
    by_cases hm : m.length = 0
    · obtain rfl : m = [] := List.eq_nil_of_length_eq_zero hm
      refine ⟨none, 0, w, ?_, OwnW.nil _ _ _, rfl, rfl, rfl, Nat.le_refl _, fun _ _ _ => rfl⟩
      have hf := Lib.run_firstCells_string (P := P) w 1 ByteArray.empty
      have h0 : ByteArray.empty.size = 0 := rfl
      rw [h0] at hf
      show (Builtin.append_ #[t, tS] ty #[.slice none 0 0, .string ByteArray.empty]).run P w = _
      simp [Builtin.append_, run_underlying ht, run_underlying hS, sizeOf, typeInfo, hi, hz1, Builtin.lenOf, hf]
    · have hr := run_append_nil_string (P := P) (w := w) t tS ty e i (.int .u8 0) ht hS hi hz ⟨m.toArray⟩ (by omega) (by omega) (by rw [hz2]; omega)
      rw [e1] at hr
      have hg2 : w.grownBy (w.drew.alloc (.cells ((⟨m.toArray⟩ : ByteArray).data.map (fun b => Value.int .u8 b.toNat) ++ Builtin.zeroCells (Value.int .u8 0).cells (grownCap w m.length 0 e - m.length)) e)) (blkOf none) := ⟨rfl, rfl, rfl, by simp, fun k hk _ => Below.heap_alloc w.drew _ k hk⟩
      refine ⟨some ⟨w.heap.size, 0, none⟩, grownCap w m.length 0 e, _, ?_, ?_, hg2⟩
      · rw [List.length_nil, Nat.zero_add]
        exact hr
      have hge := grownCap_ge w m.length 0 e
      refine own_new (rest := (Builtin.zeroCells (Value.int .u8 0).cells (grownCap w m.length 0 e - m.length)).toList) (heap_alloc_new w.drew _) ?_ ?_ ?_ hbase
      · simp [Lib.byteCells]
      · simp only [Array.size_append, Array.size_map, size_zeroCells, hzc]
        have : m.toArray.size = m.length := by simp
        omega
      · simpa using hge
  · by_cases hroom : l.length + m.length ≤ c
    · have hr := run_append_room_str (P := P) (w := w) t tS ty e i ht hS hi hz1 g off l.length c cur hg ⟨m.toArray⟩ (by omega) (by omega)
      rw [e1, strCells_S] at hr
      refine ⟨_, _, _, hr, ⟨by simp; omega, .inr ⟨g, off, _, rfl, hbg, setRow_heap w g cur _ e _ hg, ?_, ?_⟩⟩, rfl, rfl, rfl, by simp, fun k hk hne => setRow_other _ _ _ _ fun hkg => hne (by simp [blkOf, hkg])⟩
      · simp [Lib.byteCells_length]
        omega
      · have hl0 : (cur.toList.take (off + l.length)).length = off + l.length := by rw [List.length_take]; simp; omega
        show List.take (l ++ m).length (List.drop off (cur.toList.take (off + l.length) ++ Lib.byteCells m ++ cur.toList.drop (off + l.length + m.length))) = _
        rw [List.append_assoc, List.drop_append_of_le_length (by omega), List.drop_take, Nat.add_sub_cancel_left, htk, byteCells_app, ← List.append_assoc, List.length_append, ← Lib.byteCells_length l, ← Lib.byteCells_length m, ← List.length_append, List.take_left]
    · have hr := Lib.run_append_grow_string (P := P) (w := w) t tS ty e i (.int .u8 0) ht hS hi hz ⟨g, off, none⟩ l.length c (Lib.byteCells l) (by rw [Lib.byteCells_length, hz1, Nat.mul_one]) (h.cells g off rfl) ⟨m.toArray⟩ (by omega) (by omega) (by rw [e1]; exact growslice_fits (by omega) (by rw [hz2]; omega))
      rw [e1, strCells_S] at hr
      have hge := grownCap_ge w (l.length + m.length) c e
      refine ⟨_, _, _, hr, ?_, rfl, rfl, rfl, by simp, fun k hk _ => Below.heap_alloc w.drew _ k hk⟩
      refine own_new (rest := (Builtin.zeroCells (Value.int .u8 0).cells (grownCap w (l.length + m.length) c e - (l.length + m.length))).toList) (heap_alloc_new w.drew _) ?_ ?_ ?_ hbase
      · simp [byteCells_app, List.append_assoc]
      · simp only [Array.size_append, List.size_toArray, size_zeroCells, hzc, Lib.byteCells_length]
        omega
      · rw [List.length_append]; exact hge
end Go.Larder
namespace Go.Larder
open Go.RowKit
/-- .. as an operation of a walk. -/
theorem wpList_appW {P : Program} {w : World} {ops : Array Oper} {rest : List Oper} {o : Oper} {a : Act} {Q : Exit → Act → World → Prop} {t tS e : TypeId} {base c n : Nat} {A : Option Addr} {l : List UInt8}
    (ht : P.underlying t = some (.slice e)) (hS : P.underlying tS = some .string) (hinfo : (P.info? e).map (fun i => (i.zero, i.size, i.bytes)) = some (some (.int .u8 0), 1, 1)) (hgd : o.guard = none) (s x : Operand)
    (ho : o.op = .call { callee := .builtin .append, args := #[s, x], argTypes := #[t, tS] })
    (hs : a.eval s = .slice A n c) (h : OwnW w base e A c l) (hn : l.length = n) (m : List UInt8) (hx : a.eval x = S m) (hb : l.length + m.length ≤ 140737488355328) (hbase : base ≤ w.heap.size)
    (k : ∀ A' c' w', OwnW w' base e A' c' (l ++ m) → w.grownBy w' (blkOf A) → wpList P ops Q rest (a.put o.dst (.slice A' (n + m.length) c')) w') : wpList P ops Q (o :: rest) a w := by
  subst hn
  refine wpList_plain hgd fun K hK => ?_
  obtain ⟨A', cap, w', hrun, h1, h2⟩ := OwnW.app (ty := o.type) ht hS hinfo h m hb hbase
  have hk := hK _ _ (k A' cap w' h1 h2)
  unfold Oper.wp execOp
  simp only [ho, resolve, invoke, builtin, Sem.run_bind, Sem.run_pure, Result.andThen_ok, List.map_toArray, List.map_cons, List.map_nil, hs, hx, hrun]
  exact hk
end Go.Larder
