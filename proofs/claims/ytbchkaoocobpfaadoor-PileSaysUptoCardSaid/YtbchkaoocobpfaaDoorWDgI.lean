/- Digests: an index into a table by value. -/
import Derived.Test.YtbchkaoocobpfaaDoorWDgL
import Derived.Test.YtbchkaoocobpfaaDoorSpecs
namespace Go.Proofs.YtbchkaoocobpfaaDoor
open Go.RowKit Go.Larder
set_option linter.unusedVariables false
set_option linter.unusedSimpArgs false
theorem run_part_agg {P : Program} (e : TypeId) (cs : Array Value) (off s : Nat) (d : TypeDesc) (hu : P.underlying e = some d) (hd : (match d with | .struct _ | .array _ _ => true | _ => false) = true) (hi : (P.info? e).map (·.size) = some s) (W : World) :
    (Go.part e cs off).run P W = .ok (.agg (cs.extract off (off + s))) W := by
  have hagg : (isAgg e).run P W = .ok true W := by
    unfold isAgg
    rw [Sem.run_bind, run_underlying hu W]
    cases d <;> simp_all
  cases hq : P.info? e with
  | none => simp [hq] at hi
  | some i =>
    have hs : i.size = s := by simpa [hq] using hi
    simp [Go.part, Sem.run_bind, hagg, sizeOf, typeInfo, hq, hs]
theorem run_index_arr {P : Program} (t e : TypeId) (n s : Nat) (cs : Array Value) (i : Nat) (d : TypeDesc) (ht : P.underlying t = some (.array n e)) (hu : P.underlying e = some d) (hd : (match d with | .struct _ | .array _ _ => true | _ => false) = true) (hi : (P.info? e).map (·.size) = some s) (hn : i < n) (W : World) :
    (Instr.index t (.agg cs) (.int .i64 (i : Int))).run P W = .ok (.agg (cs.extract (i * s) (i * s + s))) W := by
  have hsz : (sizeOf e).run P W = .ok s W := by
    cases hq : P.info? e with
    | none => simp [hq] at hi
    | some k =>
      have hs : k.size = s := by simpa [hq] using hi
      simp [sizeOf, typeInfo, hq, hs]
  have hp := run_part_agg (P := P) e cs (i * s) s d hu hd hi W
  simp [Instr.index, run_underlying ht, asIntOf, hn, hsz]
  exact hp
theorem sig_cut : ∀ r, r < 10 → (sigN.flatten.drop (r * 16)).take 16 = sigN.getD r [] := by decide
theorem sig_lines (r : Nat) (l : List Nat) (h : sigN[r]? = some l) : ((sigN.flatten.map U8).toArray).extract (r * 16) (r * 16 + 16) = (l.map U8).toArray := by
  have hr : r < 10 := (List.getElem?_eq_some_iff.1 h).1
  have hc := sig_cut r hr
  rw [List.getD_eq_getElem?_getD, h, Option.getD_some] at hc
  rw [List.extract_toArray, List.extract_eq_drop_take', List.drop_take, Nat.add_sub_cancel_left, ← hc, List.map_take, List.map_drop]
theorem index_lines (r : Nat) (l : List Nat) (h : sigN[r]? = some l) (W : World) : (Instr.index 100 (.agg (sigN.flatten.map U8).toArray) (.int .i64 (r : Int))).run Tryd.prog W = .ok (.agg (l.map U8).toArray) W := by
  have hr : r < 10 := (List.getElem?_eq_some_iff.1 h).1
  rw [run_index_arr (P := Tryd.prog) 100 99 10 16 _ r _ Tryd.underlying100 Tryd.underlying99 rfl (by kernel_rfl) hr W, sig_lines r l h]
def plN : List Nat := [0, 4, 8, 12, 1, 5, 9, 13, 2, 6, 10, 14, 3, 7, 11, 15, 0, 5, 10, 15, 1, 6, 11, 12, 2, 7, 8, 13, 3, 4, 9, 14]
def plV : List Value := plN.map (fun n : Nat => Value.int .i64 ((n : Nat) : Int))
theorem plV_len : plV.length = 32 := rfl
theorem pl_cut : ∀ i, i < 8 → (plN.drop (i * 4)).take 4 = [plA i, plB i, Go.Larder.plC i, plD i] := by decide
theorem index_places (i : Nat) (h : i < 8) (W : World) : (Instr.index 98 (.agg plV.toArray) (.int .i64 (i : Int))).run Tryd.prog W = .ok (.agg #[.int .i64 ((plA i : Nat) : Int), .int .i64 ((plB i : Nat) : Int), .int .i64 ((Go.Larder.plC i : Nat) : Int), .int .i64 ((plD i : Nat) : Int)]) W := by
  rw [run_index_arr (P := Tryd.prog) 98 97 8 4 _ i _ Tryd.underlying98 Tryd.underlying97 rfl (by kernel_rfl) h W]
  have hc := congrArg (fun l : List Nat => (l.map (fun n : Nat => Value.int .i64 ((n : Nat) : Int)))) (pl_cut i h)
  have : plV.toArray.extract (i * 4) (i * 4 + 4) = #[.int .i64 ((plA i : Nat) : Int), .int .i64 ((plB i : Nat) : Int), .int .i64 ((Go.Larder.plC i : Nat) : Int), .int .i64 ((plD i : Nat) : Int)] := by
    rw [List.extract_toArray, List.extract_eq_drop_take', List.drop_take, Nat.add_sub_cancel_left]
    simp only [List.map_take, List.map_drop, List.map_cons, List.map_nil] at hc
    unfold plV
    rw [hc]
  rw [this]
theorem st_size {l : List Nat} (h : l.length = 16) : ((Tryd.prog).info? 99).map (·.size) = some ((l.map U8).toArray).size := by
  rw [List.size_toArray, List.length_map, h]; kernel_rfl
theorem st_one (l : List Nat) : ((l.map U8).toArray).all (·.oneCell') = true := by
  simp
  intro x _
  rfl
theorem st_old {l : List Nat} (h : l.length = 16) : (#[.int .u8 0, .int .u8 0, .int .u8 0, .int .u8 0, .int .u8 0, .int .u8 0, .int .u8 0, .int .u8 0, .int .u8 0, .int .u8 0, .int .u8 0, .int .u8 0, .int .u8 0, .int .u8 0, .int .u8 0, .int .u8 0] : Array Value).size = ((l.map U8).toArray).size := by
  show 16 = _
  rw [List.size_toArray, List.length_map, h]
theorem calls_at {P : Program} {f : FuncId} {args : Array Value} {W : World} {Q : Ending → World → Prop} (B : World → Prop) (hB : B W) (h : ∀ W', B W' → Calls P f args W' Q) : Calls P f args W Q := h W hB
theorem box_built {w : World} {g : Nat} {old cs : Array Value} {t : TypeId} {cl : List Value} (h : w.heap[g]? = some (.cells old t (0, 0))) (e : cs = cl.toArray) : BoxAt (w.setRow g cs) g t cl := by
  subst e
  exact setRow_heap w g old _ t _ h
theorem same_row (w : World) (o : Obj) (cs : Array Value) : SameBut (fun _ => False) w ((w.alloc o).setRow w.heap.size cs) :=
  ⟨rfl, rfl, rfl, by simp, fun j hj _ => (setRow_other _ _ _ _ (by omega)).trans (Below.heap_alloc w o j hj)⟩
end Go.Proofs.YtbchkaoocobpfaaDoor
