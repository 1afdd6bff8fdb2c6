/- WDgL, WDgI, WDgA -/
import Derived.Test.YtemjoiaapfhenaaGreatDoorGd14
import Derived.Laws.CopyOwn
import Derived.Laws.Tables
import Derived.Laws.Rows
import Derived.Test.YtemjoiaapfhenaaGreatDoorGd00
import Derived.Test.YtemjoiaapfhenaaGreatDoorGd01
import Derived.Deep.DeepCutAuto

/- WDgL -/
section
namespace Go.Proofs.YtemjoiaapfhenaaGreatDoor
open Go.RowKit Go.Larder
set_option linter.unusedVariables false
set_option linter.unusedSimpArgs false
def U8 (n : Nat) : Value := .int .u8 (n : Int)
theorem w_iv (w : World) : Calls Tryz.prog 175 #[] w fun e w' => e = .returned (.agg (ivN.map U).toArray) ∧ Below w.heap.size w w' := by
  go_enter Tryz.func175, Tryz.ntmps175
  go_wp2_with fail
  refine bodyPost_ret (results_cell_row (by rfl) _ _ w.heap.size 181 (ivN.map U).toArray (0, 0) _ (by rfl) (heap_alloc_new w _) Tryz.underlying181 (by rfl) (by kernel_rfl)) rfl ?_
  exact ⟨rfl, (Below.refl _ _).alloc (Nat.le_refl _) _⟩
set_option maxHeartbeats 2000000 in
set_option maxRecDepth 100000 in
theorem w_lines (w : World) : Calls Tryz.prog 214 #[] w fun e w' => e = .returned (.agg (sigN.flatten.map U8).toArray) ∧ Below w.heap.size w w' := by
  go_enter Tryz.func214, Tryz.ntmps214
  go_wp2_with (first
    | (refine wpList_build (t := 217) rfl _ rfl (by kernel_rfl) ?_)
    | (refine wpList_store_row (ty := 217) rfl _ _ rfl w.heap.size _ rfl rfl 217 _ (heap_alloc_new w _) (by kernel_rfl) (by kernel_rfl) (by kernel_rfl) ?_))
  refine bodyPost_ret (results_cell_row (by rfl) _ _ w.heap.size 217 _ (0, 0) _ (by rfl) (setRow_heap _ _ _ _ _ _ (heap_alloc_new w _)) Tryz.underlying217 (by rfl) (by kernel_rfl)) rfl ?_
  refine ⟨congrArg (fun a => Ending.returned (Value.agg a)) ?_, below_setRow ((Below.refl _ _).alloc (Nat.le_refl _) _) (Nat.le_refl _) _⟩
  kernel_rfl
end Go.Proofs.YtemjoiaapfhenaaGreatDoor
end

/- WDgI -/
section
namespace Go.Proofs.YtemjoiaapfhenaaGreatDoor
open Go.RowKit Go.Larder
set_option linter.unusedVariables false
set_option linter.unusedSimpArgs false
theorem run_part_agg {P : Program} (e : TypeId) (cs : Array Value) (off s : Nat) (d : TypeDesc) (hu : P.underlying e = some d) (hd : (match d with | .struct _ | .array _ _ => true | _ => false) = true) (hi : (P.info? e).map (·.size) = some s) (W : World) :
    (Go.part e cs off).run P W = .ok (.agg (cs.extract off (off + s))) W := by
  have hagg : (isAgg e).run P W = .ok true W := by
    unfold isAgg
    rw [Sem.run_bind, run_underlying hu W]
    cases d <;> simp_all
  cases hq : P.info? e with
  | none => simp [hq] at hi
  | some i =>
    have hs : i.size = s := by simpa [hq] using hi
    simp [Go.part, Sem.run_bind, hagg, sizeOf, typeInfo, hq, hs]
theorem run_index_arr {P : Program} (t e : TypeId) (n s : Nat) (cs : Array Value) (i : Nat) (d : TypeDesc) (ht : P.underlying t = some (.array n e)) (hu : P.underlying e = some d) (hd : (match d with | .struct _ | .array _ _ => true | _ => false) = true) (hi : (P.info? e).map (·.size) = some s) (hn : i < n) (W : World) :
    (Instr.index t (.agg cs) (.int .i64 (i : Int))).run P W = .ok (.agg (cs.extract (i * s) (i * s + s))) W := by
  have hsz : (sizeOf e).run P W = .ok s W := by
    cases hq : P.info? e with
    | none => simp [hq] at hi
    | some k =>
      have hs : k.size = s := by simpa [hq] using hi
      simp [sizeOf, typeInfo, hq, hs]
  have hp := run_part_agg (P := P) e cs (i * s) s d hu hd hi W
  simp [Instr.index, run_underlying ht, asIntOf, hn, hsz]
  exact hp
theorem sig_cut : ∀ r, r < 10 → (sigN.flatten.drop (r * 16)).take 16 = sigN.getD r [] := by decide
theorem sig_lines (r : Nat) (l : List Nat) (h : sigN[r]? = some l) : ((sigN.flatten.map U8).toArray).extract (r * 16) (r * 16 + 16) = (l.map U8).toArray := by
  have hr : r < 10 := (List.getElem?_eq_some_iff.1 h).1
  have hc := sig_cut r hr
  rw [List.getD_eq_getElem?_getD, h, Option.getD_some] at hc
  rw [List.extract_toArray, List.extract_eq_drop_take', List.drop_take, Nat.add_sub_cancel_left, ← hc, List.map_take, List.map_drop]
theorem index_lines (r : Nat) (l : List Nat) (h : sigN[r]? = some l) (W : World) : (Instr.index 217 (.agg (sigN.flatten.map U8).toArray) (.int .i64 (r : Int))).run Tryz.prog W = .ok (.agg (l.map U8).toArray) W := by
  have hr : r < 10 := (List.getElem?_eq_some_iff.1 h).1
  rw [run_index_arr (P := Tryz.prog) 217 216 10 16 _ r _ Tryz.underlying217 Tryz.underlying216 rfl (by kernel_rfl) hr W, sig_lines r l h]
def plN : List Nat := [0, 4, 8, 12, 1, 5, 9, 13, 2, 6, 10, 14, 3, 7, 11, 15, 0, 5, 10, 15, 1, 6, 11, 12, 2, 7, 8, 13, 3, 4, 9, 14]
def plV : List Value := plN.map (fun n : Nat => Value.int .i64 ((n : Nat) : Int))
theorem plV_len : plV.length = 32 := rfl
theorem pl_cut : ∀ i, i < 8 → (plN.drop (i * 4)).take 4 = [plA i, plB i, Go.Larder.plC i, plD i] := by decide
theorem index_places (i : Nat) (h : i < 8) (W : World) : (Instr.index 215 (.agg plV.toArray) (.int .i64 (i : Int))).run Tryz.prog W = .ok (.agg #[.int .i64 ((plA i : Nat) : Int), .int .i64 ((plB i : Nat) : Int), .int .i64 ((Go.Larder.plC i : Nat) : Int), .int .i64 ((plD i : Nat) : Int)]) W := by
  rw [run_index_arr (P := Tryz.prog) 215 214 8 4 _ i _ Tryz.underlying215 Tryz.underlying214 rfl (by kernel_rfl) h W]
  have hc := congrArg (fun l : List Nat => (l.map (fun n : Nat => Value.int .i64 ((n : Nat) : Int)))) (pl_cut i h)
  have : plV.toArray.extract (i * 4) (i * 4 + 4) = #[.int .i64 ((plA i : Nat) : Int), .int .i64 ((plB i : Nat) : Int), .int .i64 ((Go.Larder.plC i : Nat) : Int), .int .i64 ((plD i : Nat) : Int)] := by
    rw [List.extract_toArray, List.extract_eq_drop_take', List.drop_take, Nat.add_sub_cancel_left]
    simp only [List.map_take, List.map_drop, List.map_cons, List.map_nil] at hc
    unfold plV
    rw [hc]
  rw [this]
theorem st_size {l : List Nat} (h : l.length = 16) : ((Tryz.prog).info? 216).map (·.size) = some ((l.map U8).toArray).size := by
  rw [List.size_toArray, List.length_map, h]; kernel_rfl
theorem st_one (l : List Nat) : ((l.map U8).toArray).all (·.oneCell') = true := by
  simp
  intro x _
  rfl
theorem st_old {l : List Nat} (h : l.length = 16) : (#[.int .u8 0, .int .u8 0, .int .u8 0, .int .u8 0, .int .u8 0, .int .u8 0, .int .u8 0, .int .u8 0, .int .u8 0, .int .u8 0, .int .u8 0, .int .u8 0, .int .u8 0, .int .u8 0, .int .u8 0, .int .u8 0] : Array Value).size = ((l.map U8).toArray).size := by
  show 16 = _
  rw [List.size_toArray, List.length_map, h]
theorem calls_at {P : Program} {f : FuncId} {args : Array Value} {W : World} {Q : Ending → World → Prop} (B : World → Prop) (hB : B W) (h : ∀ W', B W' → Calls P f args W' Q) : Calls P f args W Q := h W hB
theorem box_built {w : World} {g : Nat} {old cs : Array Value} {t : TypeId} {cl : List Value} (h : w.heap[g]? = some (.cells old t (0, 0))) (e : cs = cl.toArray) : BoxAt (w.setRow g cs) g t cl := by
  subst e
  exact setRow_heap w g old _ t _ h
theorem same_row (w : World) (o : Obj) (cs : Array Value) : SameBut (fun _ => False) w ((w.alloc o).setRow w.heap.size cs) :=
  ⟨rfl, rfl, rfl, by simp, fun j hj _ => (setRow_other _ _ _ _ (by omega)).trans (Below.heap_alloc w o j hj)⟩
end Go.Proofs.YtemjoiaapfhenaaGreatDoor
end

/- WDgA -/
section
namespace Go.Proofs.YtemjoiaapfhenaaGreatDoor
open Go.RowKit Go.Larder
set_option linter.unusedVariables false
set_option linter.unusedSimpArgs false
theorem eight {h : List Nat} (hl : h.length = 8) : ∃ h0 h1 h2 h3 h4 h5 h6 h7, h = [h0, h1, h2, h3, h4, h5, h6, h7] := by
  match h, hl with
  | [a, b, c, d, e, f, g, i], _ => exact ⟨a, b, c, d, e, f, g, i, rfl⟩
theorem info_u32 : ((Tryz.prog).info? 61).map (·.size) = some 1 := by kernel_rfl
theorem cast_mod (m : Nat) : ((m : Int) % 4294967296) = ((m % 4294967296 : Nat) : Int) := by omega
theorem cast_div (m : Nat) : ((m : Int) / 4294967296) = ((m / 4294967296 : Nat) : Int) := by omega
theorem start_box (h0 h1 h2 h3 h4 h5 h6 h7 many : Nat) (last : Bool) : (startV [h0, h1, h2, h3, h4, h5, h6, h7] many last).map U = [.int .u32 (h0 : Nat), .int .u32 (h1 : Nat), .int .u32 (h2 : Nat), .int .u32 (h3 : Nat), .int .u32 (h4 : Nat), .int .u32 (h5 : Nat), .int .u32 (h6 : Nat), .int .u32 (h7 : Nat), .int .u32 1779033703, .int .u32 3144134277, .int .u32 1013904242, .int .u32 2773480762,
    .int .u32 ((1359893119 ^^^ many % 4294967296 : Nat) : Int), .int .u32 ((2600822924 ^^^ many / 4294967296 % 4294967296 : Nat) : Int), .int .u32 (if last then 3766232660 else 528734635), .int .u32 1541459225] := by
  cases last <;> simp [startV, ivN, U]
end Go.Proofs.YtemjoiaapfhenaaGreatDoor
end
