/- Walks: the strings.Builder that lies in a book: written, read, counted, emptied. -/
import Derived.Test.YtbchkaoocobpfaaMapA
import Derived.Test.YtbchkaoocobpfaaChecked
import Derived.Lib.FrozenHead
import Derived.Lib.Walk
import Derived.Laws.Externs
import Derived.RegionTactic
import Derived.ChangeAlike
namespace Go.Proofs.Ytbchkaoocobpfaa
open Go.RowKit Go.Larder
set_option linter.unusedVariables false
set_option linter.unusedSimpArgs false
theorem strCells_S' (m : List UInt8) : Lib.strCells ⟨m.toArray⟩ = Lib.byteCells m := by simp [Lib.strCells, Lib.byteCells]
/-- a text appended to a buffer whose head may be frozen: where the new row lies -/
theorem ownF_app {P : Program} {w : World} {t tS ty e : TypeId} {v : Value} {n : Nat} {xs : List Value}
    (ht : P.underlying t = some (.slice e)) (hS : P.underlying tS = some .string) (hinfo : (P.info? e).map (fun i => (i.zero, i.size, i.bytes)) = some (some (.int .u8 0), 1, 1))
    (hown : w.ownsRowF 0 e 1 v n xs) (m : List UInt8) (hm : 0 < m.length) (hb : n + m.length ≤ 140737488355328) :
    ∃ v' w', (Builtin.append_ #[t, tS] ty #[v, S m]).run P w = .ok v' w' ∧ w'.ownsRowF 0 e 1 v' (n + m.length) (xs ++ Lib.byteCells m) ∧ w.grownBy w' v.ownBlock ∧ (v'.ownBlock = v.ownBlock ∨ v'.ownBlock = some w.heap.size) := by
  obtain ⟨i, hi, hz, hz1, hz2⟩ := info_parts hinfo
  have e1 : (⟨m.toArray⟩ : ByteArray).size = m.length := ba_size m
  have hzc : (Value.int IntKind.u8 0).cells.size = 1 := rfl
  have hxl : xs.length = n := by simpa using hown.1
  have hlen : (xs ++ Lib.byteCells m).length = (n + m.length) * 1 := by rw [List.length_append, hxl, Lib.byteCells_length, Nat.mul_one]
  rcases hown.2 with ⟨rfl, rfl⟩ | ⟨g, cap, cur, fz, rfl, hbg, hg, hfz, hnc, hcm, hcs, htake⟩
  · obtain rfl : xs = [] := List.eq_nil_of_length_eq_zero hxl
    have hr := run_append_nil_string (P := P) (w := w) t tS ty e i (.int .u8 0) ht hS hi hz ⟨m.toArray⟩ (by omega) (by omega) (by rw [hz2]; omega)
    rw [e1] at hr
    have hge := grownCap_ge w m.length 0 e
    have hcm2 : grownCap w m.length 0 e ≤ maxLen := grownCap_le_maxLen w m.length 0 e (by unfold maxLen; omega)
    refine ⟨_, _, by simpa using hr, ⟨hlen, .inr ⟨w.heap.size, _, _, (0, 0), by rw [Nat.zero_add], Nat.zero_le _, heap_alloc_new w.drew _, Nat.zero_le _, by omega, hcm2, ?_, ?_⟩⟩, ⟨rfl, rfl, rfl, by simp, fun k hk _ => Below.heap_alloc w.drew _ k hk⟩, .inr rfl⟩
    · rw [Array.size_append, size_zeroCells, hzc]
      simp only [List.size_toArray, List.length_map]
      omega
    · simp [Lib.byteCells]
  · have hcs' : cur.size = cap := by simpa using hcs
    by_cases hroom : n + m.length ≤ cap
    · have hr := Lib.run_append_room_stringF (P := P) w t tS ty e i ht hS hi hz1 g n cap cur fz hg (by simpa using hfz) ⟨m.toArray⟩ (by omega) (by omega)
      rw [e1, strCells_S'] at hr
      refine ⟨_, _, hr, ⟨hlen, .inr ⟨g, cap, _, fz, rfl, hbg, setRow_heap w g cur _ e _ hg, by omega, hroom, hcm, ?_, ?_⟩⟩, ⟨rfl, rfl, rfl, by simp, fun k _ hk => setRow_other w g k _ (fun e => hk (by simp [Value.ownBlock, e]))⟩, .inl rfl⟩
      · simp only [List.size_toArray, List.length_append, List.length_take, List.length_drop, Array.length_toList, Lib.byteCells_length]
        omega
      · have ht' : cur.toList.take n = xs := by simpa using htake
        rw [ht', ← hlen]
        exact List.take_left
    · have holds : ∀ j u, xs[j]? = some u → w.cell? ((⟨g, 0, none⟩ : Addr).add j) = some u := hown.cells (g := g) rfl
      have hr := Lib.run_append_grow_string (P := P) w t tS ty e i (.int .u8 0) ht hS hi hz ⟨g, 0, none⟩ n cap xs (by rw [hz1]; simpa using hxl) holds ⟨m.toArray⟩ (by omega) (by omega) (by rw [e1]; exact growslice_fits (by omega) (by rw [hz2]; omega))
      rw [e1, strCells_S'] at hr
      have hge := grownCap_ge w (n + m.length) cap e
      have hcm2 : grownCap w (n + m.length) cap e ≤ maxLen := grownCap_le_maxLen w (n + m.length) cap e (by unfold maxLen; omega)
      refine ⟨_, _, hr, ⟨hlen, .inr ⟨w.heap.size, _, _, (0, 0), rfl, Nat.zero_le _, heap_alloc_new w.drew _, Nat.zero_le _, hge, hcm2, ?_, ?_⟩⟩, ⟨rfl, rfl, rfl, by simp, fun k hk _ => Below.heap_alloc w.drew _ k hk⟩, .inr rfl⟩
      · simp only [Array.size_append, List.size_toArray, size_zeroCells, hzc, hxl, Lib.byteCells_length]
        omega
      · simp only [Array.toList_append, List.append_assoc]
        rw [← List.append_assoc, ← hlen]
        exact List.take_left
theorem wpList_appF_str {P : Program} {w : World} {ops : Array Oper} {rest : List Oper} {o : Oper} {a : Act} {Q : Exit → Act → World → Prop} {t tS e : TypeId} {v : Value} {n : Nat} {xs : List Value}
    (ht : P.underlying t = some (.slice e)) (hS : P.underlying tS = some .string) (hinfo : (P.info? e).map (fun i => (i.zero, i.size, i.bytes)) = some (some (.int .u8 0), 1, 1)) (hgd : o.guard = none) (s x : Operand)
    (ho : o.op = .call { callee := .builtin .append, args := #[s, x], argTypes := #[t, tS] })
    (hs : a.eval s = v) (hown : w.ownsRowF 0 e 1 v n xs) (m : List UInt8) (hm : 0 < m.length) (hx : a.eval x = S m) (hb : n + m.length ≤ 140737488355328)
    (k : ∀ v' w', w'.ownsRowF 0 e 1 v' (n + m.length) (xs ++ Lib.byteCells m) → w.grownBy w' v.ownBlock → (v'.ownBlock = v.ownBlock ∨ v'.ownBlock = some w.heap.size) → wpList P ops Q rest (a.put o.dst v') w') : wpList P ops Q (o :: rest) a w := by
  refine wpList_plain hgd fun K hK => ?_
  obtain ⟨v', w', hrun, h1, h2, h3⟩ := ownF_app (ty := o.type) ht hS hinfo hown m hm hb
  have hk := hK _ _ (k v' w' h1 h2 h3)
  unfold Oper.wp execOp
  simp only [ho, resolve, invoke, builtin, Sem.run_bind, Sem.run_pure, Result.andThen_ok, List.map_toArray, List.map_cons, List.map_nil, hs, hx, hrun]
  exact hk
/-- The book in block b: its map, its count, its builder's own address and its builder's buffer, which holds l. -/
structure BkBld (w : World) (b : Nat) (vm mn p v : Value) (l : List UInt8) : Prop where
  box : BoxAt w b 88 [vm, mn, p, v]
  ptr : p = .pointer none ∨ p = .pointer (some ⟨b, 2, none⟩)
  own : w.ownsRowF 0 5 1 v l.length (Lib.byteCells l)
  ne : v = .slice none 0 0 ∨ l ≠ []
/-- the row of a buffer is the old one, or new -/
def NewV (w : World) (v v' : Value) : Prop := ∀ j, v'.ownBlock = some j → v.ownBlock = some j ∨ w.heap.size ≤ j
theorem NewV.refl (w : World) (v : Value) : NewV w v v := fun _ h => .inl h
theorem NewV.trans {w w' : World} {v v' v'' : Value} (h : NewV w v v') (h' : NewV w' v' v'') (hs : w.heap.size ≤ w'.heap.size) : NewV w v v'' := fun j hj => by
  rcases h' j hj with h1 | h1
  · exact h j h1
  · exact .inr (Nat.le_trans hs h1)
theorem NewV.none (w : World) (v : Value) : NewV w v (.slice none 0 0) := fun j h => by simp [Value.ownBlock] at h
variable {w w' : World} {b : Nat} {vm mn p v : Value} {l : List UInt8}
theorem BkBld.apart (h : BkBld w b vm mn p v l) : v.ownBlock ≠ some b := Lib.ownBlock_neF h.own h.box (by decide)
theorem BkBld.lt (h : BkBld w b vm mn p v l) : b < w.heap.size := h.box.lt
theorem BkBld.rowLt (h : BkBld w b vm mn p v l) {j : Nat} (hj : v.ownBlock = some j) : j < w.heap.size := (h.own.lt j hj).2
theorem BkBld.same (h : BkBld w b vm mn p v l) (hb : w'.heap[b]? = w.heap[b]?) (hr : ∀ j, v.ownBlock = some j → w'.heap[j]? = w.heap[j]?) : BkBld w' b vm mn p v l := by
  refine ⟨hb.trans h.box, h.ptr, ?_, h.ne⟩
  refine ⟨h.own.1, ?_⟩
  rcases h.own.2 with hn | ⟨g, cap, cur, fz, rfl, h1, h2, h3⟩
  · exact .inl hn
  · exact .inr ⟨g, cap, cur, fz, rfl, h1, (hr g rfl).trans h2, h3⟩
theorem BkBld.but {B : Nat → Prop} (h : BkBld w b vm mn p v l) (hs : SameBut B w w') (hb : ¬ B b) (hr : ∀ j, v.ownBlock = some j → ¬ B j) : BkBld w' b vm mn p v l :=
  h.same (hs.block b h.lt hb) fun j hj => hs.block j (h.rowLt hj) (hr j hj)
/-- a cell of the book's own, but for the builder, is set -/
theorem BkBld.setMany (h : BkBld w b vm mn p v l) (x : Value) : BkBld (w.setCell ⟨b, 1, none⟩ x) b vm x p v l := by
  refine ⟨h.box.set 1 x, h.ptr, ?_, h.ne⟩
  exact h.own.kept (row := some b) ⟨rfl, rfl, rfl, by simp [World.setCell], fun k _ hk => Below.heap_setCell _ _ _ _ (fun e => hk (by simp [e]))⟩ (.inr h.apart)
theorem BkBld.used (h : BkBld w b vm mn p v l) : BkBld (w.setCell ⟨b, 2, none⟩ (.pointer (some ⟨b, 2, none⟩))) b vm mn (.pointer (some ⟨b, 2, none⟩)) v l := by
  refine ⟨h.box.set 2 _, .inr rfl, ?_, h.ne⟩
  exact h.own.kept (row := some b) ⟨rfl, rfl, rfl, by simp [World.setCell], fun k _ hk => Below.heap_setCell _ _ _ _ (fun e => hk (by simp [e]))⟩ (.inr h.apart)
theorem BkBld.shape (h : BkBld w b vm mn p v l) : w.shape? b = some (88, 4) := by
  have : w.heap[b]? = some (.cells [vm, mn, p, v].toArray 88 (0, 0)) := h.box
  simp [World.shape?, this]
theorem size_bldB : ((Try.prog).info? 86).map (·.size) = some 2 := by kernel_rfl
theorem lies_bldB : liesAt Try.prog (Try.prog).depth 88 (4 / (Try.prog).cellsOf 88) 2 86 1 = true := by kernel_rfl
theorem info_byteB : ((Try.prog).info? 5).map (fun i => (i.zero, i.size, i.bytes)) = some (some (.int .u8 0), 1, 1) := by kernel_rfl
set_option maxHeartbeats 1000000 in
set_option maxRecDepth 100000 in
theorem w_checkUsed (b : Nat) (w : World) (h0 : w.cell? ⟨b, 2, none⟩ = some (.pointer (some ⟨b, 2, none⟩))) :
    Calls Try.prog 69 #[.pointer (some ⟨b, 2, none⟩)] w fun e w' => e = .returned (.tuple #[]) ∧ w' = w := by
  obtain ⟨j, hj, _⟩ := Option.map_eq_some_iff.1 size_bldB
  go_enter Try.func69, Try.ntmps69
  go_wp2
  rw [Lib.run_neq_ptr_same w _ Try.underlying83 hj]
  go_wp2
  go_end0
  exact ⟨rfl, rfl⟩
set_option maxHeartbeats 1000000 in
set_option maxRecDepth 100000 in
theorem w_checkFresh (b : Nat) (w : World) (h0 : w.cell? ⟨b, 2, none⟩ = some (.pointer none)) (hsh : w.shape? b = some (88, 4)) (hfz : w.frozen? ⟨b, 2, none⟩ = false) :
    Calls Try.prog 69 #[.pointer (some ⟨b, 2, none⟩)] w fun e w' => e = .returned (.tuple #[]) ∧ w' = w.setCell ⟨b, 2, none⟩ (.pointer (some ⟨b, 2, none⟩)) := by
  obtain ⟨j, hj, hjs⟩ := Option.map_eq_some_iff.1 size_bldB
  go_enter Try.func69, Try.ntmps69
  go_wp2
  rw [Lib.run_to_unsafe w ⟨b, 2, none⟩ Try.underlying83 Try.underlying126 hj (by rw [hjs]; decide) hsh (by decide : 2 < 4)]
  simp only [Result.andThen]
  rw [Oper.upon_value]
  go_wp2
  rw [run_callFunc_extern Try.func73 (by kernel_rfl) (by kernel_rfl) (by kernel_rfl) (e := Extern.AbiNoEscape.same) (by kernel_rfl)]
  rw [Lib.run_noEscape]
  simp only [Result.andThen]
  rw [Oper.upon_value]
  go_wp2
  rw [Lib.run_from_unsafe w ⟨b, 2, none⟩ Try.underlying126 Try.underlying83 hj hsh lies_bldB]
  simp only [Result.andThen]
  rw [Oper.upon_value]
  go_wp2
  go_end0
  exact ⟨rfl, rfl⟩
theorem w_checkB (b : Nat) (vm mn p v : Value) (l : List UInt8) (w : World) (h : BkBld w b vm mn p v l) :
    Calls Try.prog 69 #[.pointer (some ⟨b, 2, none⟩)] w fun e w' => e = .returned (.tuple #[]) ∧ BkBld w' b vm mn (.pointer (some ⟨b, 2, none⟩)) v l ∧ SameBut (fun j => j = b) w w' := by
  have hc := h.box.cell (j := 2) rfl
  rcases h.ptr with hp | hp
  · subst hp
    refine (w_checkFresh b w hc h.shape (h.box.free 2)).mono ?_
    rintro e w' ⟨rfl, rfl⟩
    exact ⟨rfl, h.used, (SameBut.refl w).setCell _ _ fun _ => rfl⟩
  · subst hp
    refine (w_checkUsed b w hc).mono ?_
    rintro e w' ⟨rfl, rfl⟩
    exact ⟨rfl, h, SameBut.refl _⟩
def WrB (w : World) (b : Nat) (vm mn v : Value) (l : List UInt8) (w' : World) : Prop :=
  ∃ v', BkBld w' b vm mn (.pointer (some ⟨b, 2, none⟩)) v' l ∧ NewV w v v' ∧ SameBut (fun j => j = b ∨ v.ownBlock = some j) w w'
set_option maxHeartbeats 2000000 in
set_option maxRecDepth 100000 in
theorem w_WriteB (b : Nat) (vm mn p v : Value) (l s : List UInt8) (w : World) (h : BkBld w b vm mn p v l) (hlen : l.length + s.length ≤ 140737488355328) (hs : 0 < s.length) :
    Calls Try.prog 61 #[.pointer (some ⟨b, 2, none⟩), S s] w fun e w' => e = .returned (.tuple #[.int .i64 s.length, .nilIface]) ∧ WrB w b vm mn v (l ++ s) w' := by
  obtain ⟨i0, hi, hz0, hz1, hz2⟩ := info_parts info_byteB
  go_enter Try.func61, Try.ntmps61
  go_wp2_with (go_at_call 69; refine (w_checkB b vm mn p v l _ h).mono ?_)
  rintro e w1 ⟨rfl, h1, hb1⟩
  have c3 : w1.cell? ⟨b, 3, none⟩ = some v := h1.box.cell (j := 3) rfl
  have hown := h1.own
  go_wp2_with (at_builtin; refine wpList_appF_str Try.underlying84 Try.underlying9 info_byteB rfl _ _ rfl rfl hown s hs rfl hlen ?_)
  intro v' w2 hown' hgrow hnb
  have hap := h1.apart
  have hlt := h1.lt
  have bx2 : BoxAt w2 b 88 [vm, mn, .pointer (some ⟨b, 2, none⟩), v] := (hgrow.block b hlt (fun e => hap e.symm)).trans h1.box
  have f3 : w2.frozen? ⟨b, 3, none⟩ = false := bx2.free 3
  have d3 : w2.cell? ⟨b, 3, none⟩ = some v := bx2.cell (j := 3) rfl
  have hnew : NewV w v v' := by
    intro j hj
    rcases hnb with h2 | h2
    · exact .inl (h2.symm.trans hj)
    · rw [h2] at hj
      injection hj with hj
      subst hj
      exact .inr hb1.size
  have hap2 : v'.ownBlock ≠ some b := Lib.ownBlock_neF hown' bx2 (by decide)
  have hsb : SameBut (fun j => j = b ∨ v.ownBlock = some j) w (w2.setCell ⟨b, 3, none⟩ v') :=
    ((hb1.mono fun j _ hj => .inl hj).grown hgrow fun j _ hj => .inr hj).setCell _ _ fun _ => .inl rfl
  have hbk : BkBld (w2.setCell ⟨b, 3, none⟩ v') b vm mn (.pointer (some ⟨b, 2, none⟩)) v' (l ++ s) := by
    refine ⟨bx2.set 3 v', .inr rfl, ?_, .inr fun h0 => ?_⟩
    · rw [List.length_append]
      have e1 : Lib.byteCells (l ++ s) = Lib.byteCells l ++ Lib.byteCells s := by simp [Lib.byteCells]
      rw [e1]
      exact hown'.kept (row := some b) ⟨rfl, rfl, rfl, by simp [World.setCell], fun k _ hk => Below.heap_setCell _ _ _ _ (fun e => hk (by simp [e]))⟩ (.inr hap2)
    · rw [List.append_eq_nil_iff] at h0
      rw [h0.2] at hs
      simp at hs
  obtain ⟨ao, n', cap, rfl⟩ : ∃ ao n' cap, v' = .slice ao n' cap := by
    rcases hown'.2 with ⟨hv, _⟩ | ⟨g, cap, cur, fz, hv, _⟩
    · exact ⟨_, _, _, hv⟩
    · exact ⟨_, _, _, hv⟩
  have hfin : WrB w b vm mn v (l ++ s) (w2.setCell ⟨b, 3, none⟩ (.slice ao n' cap)) := ⟨_, hbk, hnew, hsb⟩
  clear hbk hsb hnew hnb
  go_wp2
  go_ret2
  exact ⟨by simp, hfin⟩
def StB (w : World) (b : Nat) (vm mn p v : Value) (l : List UInt8) (w' : World) : Prop := BkBld w' b vm mn p v l ∧ SameBut (fun j => v.ownBlock = some j) w w'
theorem u8_of_row {w : World} {l : List UInt8} {v : Value} {g : Nat} (h : w.ownsRowF 0 5 1 v l.length (Lib.byteCells l)) (hg : v.ownBlock = some g) : ∀ j x, l[j]? = some x → w.cell? ((⟨g, 0, none⟩ : Addr).add j) = some (.int .u8 x.toNat) :=
  fun j x hx => h.cells hg j _ (by simp [Lib.byteCells, hx])
theorem BkBld.froze {g cap : Nat} (h : BkBld w b vm mn p (.slice (some ⟨g, 0, none⟩) l.length cap) l) : BkBld (w.freeze ⟨g, 0, none⟩ l.length) b vm mn p (.slice (some ⟨g, 0, none⟩) l.length cap) l := by
  have hap := h.apart
  have hgb : g ≠ b := fun e => hap (by simp [Value.ownBlock, e])
  have hbb := h.box
  unfold BoxAt at hbb
  unfold World.freeze
  split
  · exact h
  · refine ⟨?_, h.ptr, ⟨h.own.1, ?_⟩, h.ne⟩
    · unfold BoxAt
      simp only [Array.getElem?_modify]
      rw [if_neg hgb]
      exact hbb
    · rcases h.own.2 with ⟨hv, _⟩ | ⟨g', cap', cur, fz, hv, hbg, hg, hfz, rest⟩
      · cases hv
      · injection hv with ha _ hcap
        injection ha with ha
        injection ha with hgg _ _
        subst hgg
        subst hcap
        obtain ⟨lo, hi⟩ := fz
        refine .inr ⟨g, _, cur, (if lo == hi then (0, 0 + l.length) else (min lo 0, max hi (0 + l.length))), rfl, hbg, ?_, ?_, rest⟩
        · simp [Array.getElem?_modify, hg]
        · simp only at hfz
          split <;> simp <;> omega
theorem sameBut_freeze {g n : Nat} : SameBut (fun j => some g = some j) w (w.freeze ⟨g, 0, none⟩ n) := by
  unfold World.freeze
  split
  · exact SameBut.refl _
  · exact ⟨rfl, rfl, rfl, by simp, fun k hk hn => by
      simp only [Array.getElem?_modify]
      rw [if_neg (by rintro rfl; exact hn rfl)]⟩
theorem cells_u8B : (Try.prog).cellsOf 5 = 1 := by kernel_rfl
set_option maxHeartbeats 2000000 in
set_option maxRecDepth 100000 in
theorem w_StringB (b : Nat) (vm mn p v : Value) (l : List UInt8) (w : World) (h : BkBld w b vm mn p v l) :
    Calls Try.prog 44 #[.pointer (some ⟨b, 2, none⟩)] w fun e w' => e = .returned (S l) ∧ StB w b vm mn p v l w' := by
  have c3 : w.drew.cell? ⟨b, 3, none⟩ = some v := h.box.drew.cell (j := 3) rfl
  rcases h.own.2 with ⟨rfl, hl0⟩ | ⟨g, cap, cur, fz, rfl, _, hg, hfz, hnc, hcm, hcs, htake⟩
  · obtain rfl : l = [] := List.eq_nil_of_length_eq_zero hl0
    have hUS : ∀ ts1 ts2 ty W, (Builtin.unsafeString_ #[ts1, ts2] ty #[.pointer none, .int .i64 0]).run Try.prog W = .ok (.string .empty) W := fun ts1 ts2 ty W => Lib.run_unsafeString_none W ts1 ts2 ty none
    have hSD : ∀ ts ty W, (Builtin.unsafeSliceData_ ts ty #[.slice none 0 0]).run Try.prog W = .ok (.pointer none) W := fun _ _ _ => rfl
    have hfin : StB w b vm mn p (.slice none 0 0) [] w.drew := ⟨h.but (B := fun _ => False) (SameBut.refl w).drew (fun h => h) (fun _ _ h => h), (SameBut.refl w).drew⟩
    clear h
    go_enter Try.func44, Try.ntmps44
    go_wp2
    go_region
    all_goals (go_wp2; go_ret; exact ⟨rfl, hfin⟩)
  · have hl : l ≠ [] := by
      rcases h.ne with h0 | h0
      · cases h0
      · exact h0
    have hlp : 0 < l.length := List.length_pos_iff.2 hl
    have hSD : ∀ ts ty W, (Builtin.unsafeSliceData_ ts ty #[.slice (some ⟨g, 0, none⟩) l.length cap]).run Try.prog W = .ok (.pointer (some ⟨g, 0, none⟩)) W := fun ts ty W => Lib.run_unsafeSliceData_row W ts ty _ _ _ (by omega)
    have hUS : ∀ ts2 ty, (Builtin.unsafeString_ #[111, ts2] ty #[.pointer (some ⟨g, 0, none⟩), .int .i64 l.length]).run Try.prog w.drew = .ok (S l) (w.drew.freeze ⟨g, 0, none⟩ l.length) := fun ts2 ty =>
      Lib.run_unsafeString_row w.drew 111 ts2 ty 5 Try.underlying111 cells_u8B g cur.size (by have hg' : w.drew.heap[g]? = some (.cells cur 5 fz) := hg; simp [World.shape?, hg']) l hl (by omega) (by unfold maxLen at hcm; omega) (u8_of_row (w := w.drew) h.own rfl)
    have hfin : StB w b vm mn p (.slice (some ⟨g, 0, none⟩) l.length cap) l (w.drew.freeze ⟨g, 0, none⟩ l.length) := ⟨(h.but (B := fun _ => False) (SameBut.refl w).drew (fun h => h) (fun _ _ h => h)).froze, ((SameBut.refl w).drew).trans sameBut_freeze fun j _ hj => hj⟩
    clear h hg htake hcs
    go_enter Try.func44, Try.ntmps44
    go_wp2
    go_region
    all_goals (go_wp2; go_ret; exact ⟨rfl, hfin⟩)
set_option maxHeartbeats 2000000 in
theorem w_LenB (b : Nat) (vm mn p v : Value) (l : List UInt8) (w : World) (h : BkBld w b vm mn p v l) :
    Calls Try.prog 56 #[.pointer (some ⟨b, 2, none⟩)] w fun e w' => e = .returned (.int .i64 (l.length : Int)) ∧ w = w' := by
  have c3 : w.cell? ⟨b, 3, none⟩ = some v := h.box.cell (j := 3) rfl
  rcases h.own.2 with ⟨rfl, hl0⟩ | ⟨g, cap, cur, fz, rfl, _⟩
  · obtain rfl : l = [] := List.eq_nil_of_length_eq_zero hl0
    go_enter Try.func56, Try.ntmps56
    go_wp2
    go_ret
    exact ⟨rfl, rfl⟩
  · go_enter Try.func56, Try.ntmps56
    go_wp2
    go_ret
    exact ⟨rfl, rfl⟩
theorem w_ResetB (b : Nat) (vm mn p v : Value) (l : List UInt8) (w : World) (h : BkBld w b vm mn p v l) :
    Calls Try.prog 58 #[.pointer (some ⟨b, 2, none⟩)] w fun e w' => e = .returned (.tuple #[]) ∧ BkBld w' b vm mn (.pointer none) (.slice none 0 0) [] ∧ SameBut (fun j => j = b) w w' := by
  have c3 : w.cell? ⟨b, 3, none⟩ = some v := h.box.cell (j := 3) rfl
  have c2 : w.cell? ⟨b, 2, none⟩ = some p := h.box.cell (j := 2) rfl
  have f2 := h.box.free 2
  have f3 := h.box.free 3
  have hfin : BkBld ((w.setCell ⟨b, 2, none⟩ (.pointer none)).setCell ⟨b, 3, none⟩ (.slice none 0 0)) b vm mn (.pointer none) (.slice none 0 0) [] := ⟨(h.box.set 2 _).set 3 _, .inl rfl, World.ownsRowF_nil _ _ _ _, .inl rfl⟩
  have hsb : SameBut (fun j => j = b) w ((w.setCell ⟨b, 2, none⟩ (.pointer none)).setCell ⟨b, 3, none⟩ (.slice none 0 0)) := ((SameBut.refl (B := fun j => j = b) w).setCell ⟨b, 2, none⟩ (.pointer none) fun _ => rfl).setCell ⟨b, 3, none⟩ (.slice none 0 0) fun _ => rfl
  obtain ⟨ao, n', cap, rfl⟩ : ∃ ao n' cap, v = .slice ao n' cap := by
    rcases h.own.2 with ⟨hv, _⟩ | ⟨g, cap, cur, fz, hv, _⟩
    · exact ⟨_, _, _, hv⟩
    · exact ⟨_, _, _, hv⟩
  clear h
  go_enter Try.func58, Try.ntmps58
  go_wp2
  go_end0
  exact ⟨rfl, hfin, hsb⟩
end Go.Proofs.Ytbchkaoocobpfaa
