/- WAtoi, WEv, WCutOne, WDgW, WDgD, WAs, WNum, WDpo, WLowR, WIs, WGet, WGetS -/
import Derived.Test.YtemjoiaapfhenaaGreatDoorGd02
import Derived.Lib.AtoiTie
import Derived.Lib.AtoiErrMem
import Derived.Shelf.Strconv.AtoiAll
import Derived.Test.YtemjoiaapfhenaaGreatDoorChecked
import Derived.Test.YtemjoiaapfhenaaGreatDoorGd00
import Derived.Laws.Externs
import Derived.Deep.QuietTactic
import Derived.BigQuiet
import Derived.Test.YtemjoiaapfhenaaGreatDoorGd14
import Derived.Lib.LaidTab
import Derived.Stop.LaidErr
import Derived.MakeChecks
import Derived.Test.YtemjoiaapfhenaaGreatDoorGd04
import Derived.Test.YtemjoiaapfhenaaGreatDoorGd01
import Derived.Lib.Bytealg

/- WAtoi -/
section
namespace Go.Proofs.YtemjoiaapfhenaaGreatDoor
open Go.RowKit Go.Larder
set_option linter.unusedVariables false
set_option linter.unusedSimpArgs false

/-- The two error variables of strconv hold errors. -/
def EV (w : World) : Prop := (∃ tp p, w.cell? ⟨6, 0, none⟩ = some (.iface tp p)) ∧ ∃ tp p, w.cell? ⟨7, 0, none⟩ = some (.iface tp p)
theorem EV.keep {w w' : World} (h : EV w) (hb : Below w.heap.size w w') : EV w' := by
  have hlt : ∀ (g : Nat) (v : Value), w.cell? ⟨g, 0, none⟩ = some v → g < w.heap.size := fun g v hm => by
    rcases Nat.lt_or_ge g w.heap.size with h | h
    · exact h
    · simp [World.cell?, Array.getElem?_eq_none h] at hm
  obtain ⟨⟨a, b, h1⟩, c, d, h2⟩ := h
  exact ⟨⟨a, b, (hb.cell (p := ⟨_, 0, none⟩) (hlt _ _ h1)).trans h1⟩, c, d, (hb.cell (p := ⟨_, 0, none⟩) (hlt _ _ h2)).trans h2⟩
theorem EV.drew {w : World} (h : EV w) : EV w.drew := h
theorem es_star : "*" ++ "errors.errorString" = "*errors.errorString" := by decide
theorem es_row (u : TypeId) (h : (Tryz.prog).typeName? 3 u = some "*errors.errorString") : u = 251 :=
  typeName_ptr_named (nm := "errors.errorString") (by rw [es_star]; kernel_rfl) (by kernel_rfl) (by decide) u (by rw [es_star]; exact h)
theorem laid_at {l : List (String × DataW Unit)} {w : World} {n : String} {text : List UInt8} (hp : (l.all fun x => x.2.handleName?.isNone) = true) (h : laidMetH Tryz.prog l w) (k : Nat) (hn : l[k]? = some (n, .iface "*errors.errorString" (.ptr (.agg [.lit (.string text)])))) {g : Nat} (hg : (Tryz.prog).globalNamed n = some g) (ht : ((Tryz.prog).globals[g]?).map (·.type) = some 117) :
    ∃ tp p, w.cell? ⟨g, 0, none⟩ = some (.iface tp p) := by
  rw [MakeChecks.laidMetH_plain _ _ _ hp] at h
  clear hp
  induction l generalizing k with
  | nil => cases hn
  | cons x l ih =>
    cases k with
    | zero =>
      have hx : x = (n, .iface "*errors.errorString" (.ptr (.agg [.lit (.string text)]))) := by simpa using hn
      subst hx
      obtain ⟨a, s, hv, _⟩ := laid_sentinel h hg ht Tryz.underlying117 es_row Tryz.underlying251 Tryz.underlying253 rfl rfl Tryz.underlying9 (by kernel_rfl) (by kernel_rfl)
      have h0 := World.var?_cell hg hv 0
      exact ⟨_, _, by simpa using h0⟩
    | succ k => exact ih h.tail k (by simpa using hn)
/-- What Atoi answers. -/
def AtoiOut (w : World) (s : List UInt8) (e : Ending) (w' : World) : Prop :=
  ((∃ v : Int, Lib.atoiAll s = .ok v ∧ e = .returned (.tuple #[.int .i64 v, .nilIface])) ∨ (∃ (v : Int) (t : TypeId) (p : Value), (-9223372036854775808 ≤ v ∧ v ≤ 9223372036854775807) ∧ (∀ u, Lib.atoiAll s ≠ .ok u) ∧ e = .returned (.tuple #[.int .i64 v, .iface t p]))) ∧ Below w.heap.size w w'
theorem w_Atoi (s : List UInt8) (hl : s.length ≤ 140737488355328) (w : World) (hE : EV w) :
    Calls Tryz.prog 110 #[S s] w (AtoiOut w s) := by
  have hd : (⟨s.toArray⟩ : ByteArray).data.toList = s := by simp
  have hz : (⟨s.toArray⟩ : ByteArray).size = s.length := ba_size s
  obtain ⟨⟨t1, p1, h1⟩, t2, p2, h2⟩ := hE
  cases h : Lib.atoiAll s
  · refine (Any.strconv_Atoi_ok Tryz.laysC172 ⟨s.toArray⟩ (by rw [hz]; omega) _ (by rw [hd]; exact h) w).mono ?_
    rintro e w' ⟨he, hw⟩
    refine ⟨.inl ⟨_, h, he⟩, ?_⟩
    rcases hw with rfl | ⟨t, rfl⟩
    · exact Below.refl _ _
    · exact Lib.bytesWorld_below _ _ _
  · refine (Any.strconv_Atoi_syntax Tryz.laysC172 ⟨s.toArray⟩ (by rw [hz]; omega) (by rw [hd]; exact h) _ w h1 (.inr ⟨_, _, rfl⟩)).mono ?_
    rintro e w' ⟨N, he, _, _, hb⟩
    exact ⟨.inr ⟨0, _, _, by omega, (fun u hu => by rw [h] at hu; cases hu), he⟩, hb⟩
  · refine (Any.strconv_Atoi_range Tryz.laysC172 ⟨s.toArray⟩ (by rw [hz]; omega) (by rw [hd]; exact h) _ w h2 (.inr ⟨_, _, rfl⟩)).mono ?_
    rintro e w' ⟨N, he, _, _, hb⟩
    exact ⟨.inr ⟨_, _, _, Lib.atoiSat_bounds _, (fun u hu => by rw [h] at hu; cases hu), he⟩, hb⟩
end Go.Proofs.YtemjoiaapfhenaaGreatDoor
end

/- WEv -/
section
namespace Go.Proofs.YtemjoiaapfhenaaGreatDoor
open Go.RowKit Go.Larder
set_option linter.unusedVariables false
set_option linter.unusedSimpArgs false
def esText : List UInt8 := [105, 110, 118, 97, 108, 105, 100, 32, 115, 121, 110, 116, 97, 120]
def erText : List UInt8 := [118, 97, 108, 117, 101, 32, 111, 117, 116, 32, 111, 102, 32, 114, 97, 110, 103, 101]
theorem EV.laid {l : List (String × DataW Unit)} {w : World} (hp : (l.all fun x => x.2.handleName?.isNone) = true) (h : laidMetH Tryz.prog l w) (i j : Nat)
    (hi : l[i]? = some ("strconv.ErrSyntax", .iface "*errors.errorString" (.ptr (.agg [.lit (.string esText)])))) (hj : l[j]? = some ("strconv.ErrRange", .iface "*errors.errorString" (.ptr (.agg [.lit (.string erText)])))) : EV w :=
  ⟨laid_at hp h i hi (by kernel_rfl) (by kernel_rfl), laid_at hp h j hj (by kernel_rfl) (by kernel_rfl)⟩
end Go.Proofs.YtemjoiaapfhenaaGreatDoor
end

/- WCutOne -/
section
namespace Go.Proofs.YtemjoiaapfhenaaGreatDoor
open Go.RowKit Go.Larder
set_option linter.unusedVariables false
set_option linter.unusedSimpArgs false
theorem c1_drewN {B : Nat} {a w : World} (h : Below B a w) (n : Nat) : Below B a (w.drewN n) := ⟨h.os, h.tape, h.output, h.size, h.block⟩
set_option maxHeartbeats 1000000 in
set_option maxRecDepth 100000 in
theorem c1_liteIndexByte (l : List UInt8) (c : UInt8) (w : World) :
    Calls Tryz.prog 154 #[S l, .int .u8 c.toNat] w fun e w' => e = .returned (.int .i64 (Lib.indexByte l c)) ∧ w = w' := by
  go_enter Tryz.func154, Tryz.ntmps154
  go_wp2
  rw [run_callFunc_extern Tryz.func190 (by kernel_rfl) (by kernel_rfl) (by kernel_rfl) (e := Extern.BytealgIndexByte.indexByte) (by kernel_rfl), Lib.run_indexByteString]
  simp only [Result.andThen]
  rw [Oper.upon_value]
  go_wp2
  go_ret
  exact ⟨by simp, rfl⟩
theorem c1_IndexByte (l : List UInt8) (c : UInt8) (w : World) :
    Calls Tryz.prog 99 #[S l, .int .u8 c.toNat] w fun e w' => e = .returned (.int .i64 (Lib.indexByte l c)) ∧ w = w' := by
  go_enter Tryz.func99, Tryz.ntmps99
  go_wp2_with (go_at_call 154; refine (c1_liteIndexByte l c _).mono ?_; rintro e w' ⟨rfl, rfl⟩)
  go_ret
  exact ⟨rfl, rfl⟩
set_option maxHeartbeats 1000000 in
theorem c1_liteIndex (l : List UInt8) (c : UInt8) (w : World) :
    Calls Tryz.prog 135 #[S l, S [c]] w fun e w' => e = .returned (.int .i64 (Lib.indexByte l c)) ∧ w = w' := by
  cases hcl : ([c] == l)
  · go_enter Tryz.func135, Tryz.ntmps135
    go_wp2_with (go_at_call 154; refine (c1_liteIndexByte l c _).mono ?_; rintro e w' ⟨rfl, rfl⟩)
    go_ret
    exact ⟨rfl, rfl⟩
  · have hl : l = [c] := by have := hcl; simp at this; exact this.symm
    subst hl
    have h0 : Lib.indexByte [c] c = 0 := by simp [Lib.indexByte]
    go_enter Tryz.func135, Tryz.ntmps135
    go_wp2_with fail
    go_ret
    exact ⟨by rw [h0]; rfl, rfl⟩
theorem c1_Index (l : List UInt8) (c : UInt8) (w : World) :
    Calls Tryz.prog 71 #[S l, S [c]] w fun e w' => e = .returned (.int .i64 (Lib.indexByte l c)) ∧ w = w' := by
  go_enter Tryz.func71, Tryz.ntmps71
  go_wp2_with (go_at_call 135; refine (c1_liteIndex l c _).mono ?_; rintro e w' ⟨rfl, rfl⟩)
  go_ret
  exact ⟨rfl, rfl⟩
set_option maxHeartbeats 1000000 in
theorem c1_liteCut (l : List UInt8) (c : UInt8) (hl : l.length ≤ 140737488351232) (w : World) :
    Calls Tryz.prog 167 #[S l, S [c]] w fun e w' => e = .returned (.tuple #[S (cut1 c l).1, S (cut1 c l).2.1, .bool (cut1 c l).2.2]) ∧ Below w.heap.size w w' := by
  have hi := c1_liteIndex l c w
  rcases ixb_cases l c with h | ⟨k, h⟩
  · rw [cut1_none h]
    rw [h] at hi
    go_enter Tryz.func167, Tryz.ntmps167
    go_wp2_with (go_at_call 135; refine hi.mono ?_; rintro e w' ⟨rfl, rfl⟩)
    go_ret3
    exact ⟨rfl, Below.refl _ _⟩
  · obtain ⟨h1, hk⟩ := cut1_at h
    rw [h1]
    rw [h] at hi
    have hk2 : k ≤ l.length := by omega
    have hk3 : k + 1 ≤ l.length := by omega
    have e1 : (l.drop (k + 1)).take (l.length - (k + 1)) = l.drop (k + 1) := by rw [List.take_of_length_le]; simp
    clear h1
    go_enter Tryz.func167, Tryz.ntmps167
    go_wp2_with (go_at_call 135; refine hi.mono ?_; rintro e w' ⟨rfl, rfl⟩)
    go_quiet (fail)
    go_wp2_with fail
    go_ret3
    exact ⟨by simp, c1_drewN (Below.refl _ _) _⟩
theorem c1_Cut (l : List UInt8) (c : UInt8) (hl : l.length ≤ 140737488351232) (w : World) :
    Calls Tryz.prog 117 #[S l, S [c]] w fun e w' => e = .returned (.tuple #[S (cut1 c l).1, S (cut1 c l).2.1, .bool (cut1 c l).2.2]) ∧ Below w.heap.size w w' := by
  go_enter Tryz.func117, Tryz.ntmps117
  go_wp2_with (go_at_call 167; refine (c1_liteCut l c hl _).mono ?_; rintro e w1 ⟨rfl, hb⟩)
  go_ret3
  exact ⟨rfl, hb⟩
end Go.Proofs.YtemjoiaapfhenaaGreatDoor
end

/- WDgW -/
section
namespace Go.Proofs.YtemjoiaapfhenaaGreatDoor
open Go.RowKit Go.Larder
set_option linter.unusedVariables false
set_option linter.unusedSimpArgs false
theorem run_index_S {P : Program} (t : TypeId) (ht : P.underlying t = some .string) (b : List UInt8) (i : Int) (j : Nat) (hi : i = (j : Int)) (c : UInt8) (hj : b[j]? = some c) (w : World) : (Instr.index t (.string ⟨b.toArray⟩) (.int .i64 i)).run P w = .ok (.int .u8 (c.toNat : Int)) w := by
  subst hi
  have hl : j < b.length := (List.getElem?_eq_some_iff.1 hj).1
  rw [run_index_string w t _ _ _ ht, dif_pos (by rw [ba_size]; omega)]
  simp only [ba_get, Int.toNat_natCast]
  rw [(List.getElem?_eq_some_iff.1 hj).2]
abbrev digs : List UInt8 := [48, 49, 50, 51, 52, 53, 54, 55, 56, 57, 97, 98, 99, 100, 101, 102]
def hexc (x : Nat) : UInt8 := digs.getD x 0
theorem hexc_index : ∀ x, x < 16 → Lib.indexByte digs (hexc x) = (x : Int) := by decide
set_option maxHeartbeats 2000000 in
set_option maxRecDepth 100000 in
theorem w_word (line b : List UInt8) (k x gb : Nat) (hk : line[k]? = some (hexc x)) (hx : x < 16) (hb : b.length = 64) (w : World) (hc : w.cell? ⟨gb, 0, none⟩ = some (S b)) :
    Calls Tryz.prog 98 #[S line, .int .i64 k, .pointer (some ⟨gb, 0, none⟩)] w fun e w' => e = .returned (.int .u32 (wd b x : Nat)) ∧ Below w.heap.size w w' := by
  have hlk : k < line.length := (List.getElem?_eq_some_iff.1 hk).1
  have hg : ∀ h, line[k]'h = hexc x := fun h => by rw [List.getElem?_eq_getElem h] at hk; exact Option.some.inj hk
  have hix := fun W => c1_IndexByte digs (hexc x) W
  simp only [hexc_index x hx] at hix
  generalize hexc x = cx at *
  have h0 := fun W => run_index_S (P := Tryz.prog) 9 Tryz.underlying9 b (4 * (x : Int)) (4 * x) (by omega) (b.getD (4 * x) 0) (by rw [List.getD_eq_getElem?_getD, List.getElem?_eq_getElem (by omega)]; rfl) W
  have h1 := fun W => run_index_S (P := Tryz.prog) 9 Tryz.underlying9 b (4 * (x : Int) + 1) (4 * x + 1) (by omega) (b.getD (4 * x + 1) 0) (by rw [List.getD_eq_getElem?_getD, List.getElem?_eq_getElem (by omega)]; rfl) W
  have h2 := fun W => run_index_S (P := Tryz.prog) 9 Tryz.underlying9 b (4 * (x : Int) + 2) (4 * x + 2) (by omega) (b.getD (4 * x + 2) 0) (by rw [List.getD_eq_getElem?_getD, List.getElem?_eq_getElem (by omega)]; rfl) W
  have h3 := fun W => run_index_S (P := Tryz.prog) 9 Tryz.underlying9 b (4 * (x : Int) + 3) (4 * x + 3) (by omega) (b.getD (4 * x + 3) 0) (by rw [List.getD_eq_getElem?_getD, List.getElem?_eq_getElem (by omega)]; rfl) W
  have HW := Lib.hid (show wd b x = (b.getD (4 * x) 0).toNat + (b.getD (4 * x + 1) 0).toNat * 256 + (b.getD (4 * x + 2) 0).toNat * 65536 + (b.getD (4 * x + 3) 0).toNat * 16777216 from rfl)
  generalize b.getD (4 * x) 0 = c0 at *
  generalize b.getD (4 * x + 1) 0 = c1 at *
  generalize b.getD (4 * x + 2) 0 = c2 at *
  generalize b.getD (4 * x + 3) 0 = c3 at *
  have Hb := Lib.hid hb
  have hb4 : 4 * (x : Int) + 3 < (b.length : Int) := by omega
  clear hb hk
  go_enter Tryz.func98, Tryz.ntmps98
  go_wp2_with fail
  refine (hix _).mono ?_
  rintro e w1 ⟨rfl, rfl⟩
  have hw1 : IntKind.i64.wrap (4 * (x : Int) + 1) = 4 * (x : Int) + 1 := by simp [IntKind.wrap, IntKind.bits, IntKind.signed]; omega
  have hw2 : IntKind.i64.wrap (4 * (x : Int) + 2) = 4 * (x : Int) + 2 := by simp [IntKind.wrap, IntKind.bits, IntKind.signed]; omega
  have hw3 : IntKind.i64.wrap (4 * (x : Int) + 3) = 4 * (x : Int) + 3 := by simp [IntKind.wrap, IntKind.bits, IntKind.signed]; omega
  have ht0 : (4 * (x : Int)).toNat = 4 * x := by omega
  have ht1 : (4 * (x : Int) + 1).toNat = 4 * x + 1 := by omega
  have ht2 : (4 * (x : Int) + 2).toNat = 4 * x + 2 := by omega
  have ht3 : (4 * (x : Int) + 3).toNat = 4 * x + 3 := by omega
  have hb0 : (0 : Int) ≤ 4 * (x : Int) := by omega
  have hn0 : 4 * x < b.length := by omega
  have hn1 : 4 * x + 1 < b.length := by omega
  have hn2 : 4 * x + 2 < b.length := by omega
  have hn3 : 4 * x + 3 < b.length := by omega
  have hp1 : (0 : Int) ≤ 4 * (x : Int) + 1 := by omega
  have hp2 : (0 : Int) ≤ 4 * (x : Int) + 2 := by omega
  have hp3 : (0 : Int) ≤ 4 * (x : Int) + 3 := by omega
  have hl0 := c0.toNat_lt
  have hl1 := c1.toNat_lt
  have hl2 := c2.toNat_lt
  have hl3 := c3.toNat_lt
  go_wp2_with fail
  refine wp_region_still_tail 25 (by kernel_rfl) (by kernel_rfl) ?_
  simp only [List.take_succ_cons, List.take_zero, List.drop_succ_cons, List.drop_zero]
  repeat still_step
  try refine wpStill_nil ?_
  change wpList _ _ _ _ _ w.drew
  go_wp2_with fail
  go_ret
  refine ⟨ret_int ?_, (Below.refl _ _).drew⟩
  rw [HW.out]
  have hwr : ∀ y : Int, IntKind.u32.wrap y = y % 4294967296 := fun y => by simp [IntKind.wrap, IntKind.bits, IntKind.signed]
  simp only [hwr]
  omega
end Go.Proofs.YtemjoiaapfhenaaGreatDoor
end

/- WDgD -/
section
namespace Go.Proofs.YtemjoiaapfhenaaGreatDoor
open Go.RowKit Go.Larder
set_option linter.unusedVariables false
set_option linter.unusedSimpArgs false
def encU : ElemT Nat := ⟨fun n => [Value.int .u32 ((n : Nat) : Int)], 1, fun _ => rfl, fun _ u hu => by simp at hu; subst hu; rfl, by omega⟩
theorem flat_U (l : List Nat) : l.flatMap encU.enc = l.map U := by
  induction l with
  | nil => rfl
  | cons x l ih => rw [List.flatMap_cons, ih]; rfl
def primesN : List Nat := [2, 3, 5, 7, 11, 13, 17, 19]
theorem roots {k p : Nat} (h : primesN[k]? = some p) : ivN[k]? = some (rootN p) ∧ p < 100 := by
  match k, h with
  | 0, h => injection h with h; subst h; exact ⟨by rw [root_2]; rfl, by decide⟩
  | 1, h => injection h with h; subst h; exact ⟨by rw [root_3]; rfl, by decide⟩
  | 2, h => injection h with h; subst h; exact ⟨by rw [root_5]; rfl, by decide⟩
  | 3, h => injection h with h; subst h; exact ⟨by rw [root_7]; rfl, by decide⟩
  | 4, h => injection h with h; subst h; exact ⟨by rw [root_11]; rfl, by decide⟩
  | 5, h => injection h with h; subst h; exact ⟨by rw [root_13]; rfl, by decide⟩
  | 6, h => injection h with h; subst h; exact ⟨by rw [root_17]; rfl, by decide⟩
  | 7, h => injection h with h; subst h; exact ⟨by rw [root_19]; rfl, by decide⟩
  | k + 8, h => cases h
abbrev sgT : List UInt8 := (([48, 49, 50, 51, 52, 53, 54, 55, 56, 57, 97, 98, 99, 100, 101, 102, 32, 101, 97, 52, 56, 57, 102, 100, 54, 49, 99, 48, 50, 98, 55, 53, 51, 32, 98, 56, 99, 48, 53, 50, 102, 100].append [97, 101, 51, 54, 55, 49, 57, 52, 32, 55, 57, 51, 49, 100, 99, 98, 101, 50, 54, 53, 97, 52, 48, 102, 56, 32, 57, 48, 53, 55, 50, 52, 97, 102, 101, 49, 98, 99, 54, 56, 51, 100]).append ([32, 50, 99, 54, 97, 48, 98, 56, 51, 52, 100, 55, 53, 102, 101, 49, 57, 32, 99, 53, 49, 102, 101, 100, 52, 97, 48, 55, 54, 51, 57, 50, 56, 98, 32, 100, 98, 55, 101, 99, 49, 51].append [57, 53, 48, 102, 52, 56, 54, 50, 97, 32, 54, 102, 101, 57, 98, 51, 48, 56, 99, 50, 100, 55, 49, 52, 97, 53, 32, 97, 50, 56, 52, 55, 54, 49, 53, 102, 98, 57, 101, 51, 99, 100, 48]))
def sgL : List (List UInt8) := sigN.map fun l => l.map (fun x => ([48, 49, 50, 51, 52, 53, 54, 55, 56, 57, 97, 98, 99, 100, 101, 102] : List UInt8).getD x 0)
/-- the library's table of the ASCII spaces -/
def AS (w : World) : Prop := Lib.TabIs Tryz.prog w "strings.asciiSpace" .u8 Lib.asciiSpaceTab
theorem AS.keep {w w' : World} (h : AS w) (hb : Below w.heap.size w w') : AS w' := by
  unfold AS Lib.TabIs World.var? at h ⊢
  cases hg : (Tryz.prog).globalNamed "strings.asciiSpace" with
  | none => rw [hg] at h; cases h
  | some g =>
    rw [hg] at h
    simp only [Option.bind_some] at h ⊢
    have hlt : g < w.heap.size := by
      rcases Nat.lt_or_ge g w.heap.size with h' | h'
      · exact h'
      · rw [Array.getElem?_eq_none h'] at h; cases h
    rw [hb.block g hlt]
    exact h
theorem blk_eq (s : List UInt8) (a : Nat) (ha : a ≤ s.length) : (s.drop a).take ((min (s.length : Int) ((a : Int) + 64)).toNat - a) = (s.drop a).take 64 := by
  have h1 : (min (s.length : Int) ((a : Int) + 64)).toNat - a = min (s.drop a).length 64 := by rw [List.length_drop]; omega
  rw [h1, Nat.min_comm, ← List.take_take, List.take_of_length_le (Nat.le_refl _)]
theorem eightD {h : List Nat} (hl : h.length = 8) : ∃ h0 h1 h2 h3 h4 h5 h6 h7, h = [h0, h1, h2, h3, h4, h5, h6, h7] := by
  match h, hl with
  | [a, b, c, d, e, f, g, i], _ => exact ⟨a, b, c, d, e, f, g, i, rfl⟩
theorem OkV.at_ {n : Nat} {v : List Nat} (h : OkV n v) {j : Nat} (hj : j < n) : v[j]? = some (v.getD j 0) := by
  rw [List.getD_eq_getElem?_getD, List.getElem?_eq_getElem (by rw [h.len]; exact hj)]
  rfl
theorem OwnS.cell {w : World} {B g c : Nat} {e : TypeId} {l : List (List UInt8)} (h : OwnL encS w B e (some ⟨g, 0, none⟩) c l) {j : Nat} {x : List UInt8} (hx : l[j]? = some x) : w.cell? ⟨g, j, none⟩ = some (S x) := by
  obtain ⟨b, off, hA, _, hc⟩ := h.read.at_S hx
  injection hA with hA
  injection hA with h1 h2
  subst h1 h2
  rwa [Nat.zero_add] at hc
theorem startV_small (h : List Nat) (hl : h.length = 8) (m : Nat) (hm : m ≤ 4000000) (l : Bool) : startV h m l = if l then (((h ++ ivN).set 12 (1359893119 ^^^ m)).set 13 2600822924).set 14 (4294967295 - 528734635) else ((h ++ ivN).set 12 (1359893119 ^^^ m)).set 13 2600822924 := by
  obtain ⟨h0, h1, h2, h3, h4, h5, h6, h7, rfl⟩ := eightD hl
  have m1 : m % 4294967296 = m := Nat.mod_eq_of_lt (by omega)
  have m2 : m / 4294967296 = 0 := Nat.div_eq_of_lt (by omega)
  unfold startV
  cases l <;> simp [ivN, m1, m2]
/-- the numbers when k halves of a mix are done -/
def hvG (v : List Nat) (a b c d x y : Nat) : Nat → List Nat
  | 0 => v
  | 1 => half v a b c d x 16 12
  | _ => mixV v a b c d x y
theorem hvG_ok {v : List Nat} (h : OkV 16 v) (a b c d x y : Nat) : ∀ k, OkV 16 (hvG v a b c d x y k)
  | 0 => h
  | 1 => h.half _ _ _ _ _ _ _
  | _ + 2 => h.mixV _ _ _ _ _ _
def turnOk (r : Nat) : Prop := ∀ (X : Nat) (W : World), X < 4294967296 → Calls Tryz.prog 100 #[.int .u32 (X : Int), .int .i64 (r : Int)] W fun e w' => e = .returned (.int .u32 ((rotr X r : Nat) : Int)) ∧ Below W.heap.size W w'
theorem selD (k : Nat) (hk : k < 2) (v : List Nat) (a b c d x y : Nat) : ∃ r1 r2 : Nat, ([.int .i64 16, .int .i64 12, .int .i64 8, .int .i64 7] : List Value)[k * 2]? = some (.int .i64 (r1 : Int)) ∧ ([.int .i64 16, .int .i64 12, .int .i64 8, .int .i64 7] : List Value)[k * 2 + 1]? = some (.int .i64 (r2 : Int)) ∧
    hvG v a b c d x y (k + 1) = half (hvG v a b c d x y k) a b c d (if k = 0 then x else y) r1 r2 ∧ turnOk r1 ∧ turnOk r2 := by
  match k, hk with
  | 0, _ => exact ⟨16, 12, rfl, rfl, rfl, fun X W hX => w_turn16 X hX W, fun X W hX => w_turn12 X hX W⟩
  | 1, _ => exact ⟨8, 7, rfl, rfl, rfl, fun X W hX => w_turn8 X hX W, fun X W hX => w_turn7 X hX W⟩
theorem wrap32 (y : Int) : IntKind.u32.wrap y = y % 4294967296 := by simp [IntKind.wrap, IntKind.bits, IntKind.signed]
theorem add32 (a b : Nat) : IntKind.u32.wrap ((a : Int) + (b : Int)) = (((a + b) % 4294967296 : Nat) : Int) := by rw [wrap32]; omega
theorem add32' (a b : Nat) : ((a : Int) + (b : Int)) % 4294967296 = (((a + b) % 4294967296 : Nat) : Int) := by omega
theorem mod32_lt (x : Nat) : x % 4294967296 < 4294967296 := Nat.mod_lt _ (by omega)
theorem dbl_i {i : Nat} (h : i < 8) : IntKind.i64.wrap (2 * (i : Int)) = 2 * (i : Int) := by simp [IntKind.wrap, IntKind.bits, IntKind.signed]; omega
theorem dbl_ik {i k : Nat} (h : i < 8) (hk : k < 2) : IntKind.i64.wrap (2 * (i : Int) + (k : Int)) = 2 * (i : Int) + (k : Int) := by simp [IntKind.wrap, IntKind.bits, IntKind.signed]; omega
theorem mix1 {v : List Nat} (h : OkV 16 v) {a b : Nat} (y : Nat) (ha : a < 16) (hb : b < 16) : ∃ qa qb q1 q2 : Nat, v[a]? = some qa ∧ v[b]? = some qb ∧ IntKind.u32.wrap ((qb : Int) + (y : Int)) = (q1 : Int) ∧ ((qb : Int) + (y : Int)) % 4294967296 = (q1 : Int) ∧ IntKind.u32.wrap ((qa : Int) + (q1 : Int)) = (q2 : Int) ∧ ((qa : Int) + (q1 : Int)) % 4294967296 = (q2 : Int) ∧ q1 < 4294967296 ∧ q2 < 4294967296 ∧ st1 v a b y = v.set a q2 :=
  ⟨_, _, _, _, OkV.at_ h ha, OkV.at_ h hb, add32 _ _, add32' _ _, add32 _ _, add32' _ _, mod32_lt _, mod32_lt _, rfl⟩
theorem mix2 {v : List Nat} (h : OkV 16 v) {d a : Nat} (r : Nat) (hd : d < 16) (ha : a < 16) : ∃ qd qa qx q2 : Nat, v[d]? = some qd ∧ v[a]? = some qa ∧ bits .xor .u32 (qd : Int) (qa : Int) = ((qx : Nat) : Int) ∧ qx < 4294967296 ∧ rotr qx r = q2 ∧ st2 v d a r = v.set d q2 :=
  ⟨_, _, _, _, OkV.at_ h hd, OkV.at_ h ha, u32_xor_nat _ _ (h.get _) (h.get _), xor_lt32 (h.get _) (h.get _), rfl, rfl⟩
theorem mix3 {v : List Nat} (h : OkV 16 v) {c d : Nat} (hc : c < 16) (hd : d < 16) : ∃ qc qd q2 : Nat, v[c]? = some qc ∧ v[d]? = some qd ∧ IntKind.u32.wrap ((qc : Int) + (qd : Int)) = (q2 : Int) ∧ ((qc : Int) + (qd : Int)) % 4294967296 = (q2 : Int) ∧ q2 < 4294967296 ∧ st3 v c d = v.set c q2 :=
  ⟨_, _, _, OkV.at_ h hc, OkV.at_ h hd, add32 _ _, add32' _ _, mod32_lt _, rfl⟩
theorem eqI {x y : Int} (h : x = y) : Value.int .i64 x = .int .i64 y := by rw [h]
theorem padB_lenD (rest : List UInt8) (h : rest.length ≤ 64) : (padB rest).length = 64 := by simp [padB]; omega
theorem sg_fields : Lib.fields sgT = sgL := by kernel_rfl
theorem sg_ascii : ∀ (j : Nat) (b : UInt8), sgT[j]? = some b → b.toNat < 128 := by
  have h : (sgT.all fun b => decide (b.toNat < 128)) = true := by decide
  intro j b hj
  have := List.all_eq_true.1 h b (List.mem_of_getElem? hj)
  simpa using this
theorem w_chrD (n : Nat) (hn : n < 256) (w : World) :
    Calls Tryz.prog 36 #[.int .i64 (n : Int)] w fun e w' => e = .returned (S [UInt8.ofNat n]) ∧ Below w.heap.size w w' := by
  have k1 := fun (W : World) (a : Int) => run_lit_str (P := Tryz.prog) 112 9 Tryz.underlying112 Tryz.underlying5 Tryz.underlying9 W [a] #[.int .u8 a] rfl 1 1 rfl W.heap.size rfl
  go_enter Tryz.func36, Tryz.ntmps36
  go_wp2_with fail
  go_ret
  refine ⟨ret_S ?_, by go_grown⟩
  simp
theorem sl_u32D : SlT Tryz.prog 97 61 1 4 := SlT.mk' (z := .int .u32 0) Tryz.underlying97 (by kernel_rfl) rfl
theorem w_CopyU (l : List Nat) (hl : l.length ≤ 100000) (A : Option Addr) (c : Nat) (w : World) (hr : ReadL encU w w.heap.size A l) :
    Calls Tryz.prog 96 #[.slice A l.length c] w fun e w' => (∃ A2 c2, e = .returned (.slice A2 l.length c2) ∧ OwnL encU w' w.heap.size 61 A2 c2 l) ∧ Below w.heap.size w w' := by
  have hn : OwnL encU w w.heap.size 61 none 0 ([] : List Nat) := OwnL.nil _ _ _
  go_enter Tryz.func96, Tryz.ntmps96
  go_wp2_with (at_builtin
               refine wpList_app_any encU sl_u32D l rfl _ _ rfl rfl hn rfl hr (by simp; omega) (by simp only [maxLen, List.length_nil]; omega) (Nat.le_refl _) ?_
               intro A2 c2 w3 hown3 hb3)
  go_ret
  exact ⟨⟨A2, c2, by simp, by simpa using hown3⟩, hb3⟩
/-- a row of numbers of 32 bits -/
abbrev RowU (w : World) (B g c : Nat) (v : List Nat) : Prop := OwnL encU w B 61 (some ⟨g, 0, none⟩) c v
theorem own_someU {w : World} {B c : Nat} {A : Option Addr} {l : List Nat} (h : OwnL encU w B 61 A c l) (hl : 0 < l.length) : ∃ g, A = some ⟨g, 0, none⟩ ∧ B ≤ g ∧ g < w.heap.size := by
  rcases h.2 with ⟨_, h0⟩ | ⟨g, cap, cur, h1, hb, h2, _⟩
  · omega
  · injection h1 with h1 _ _
    subst h1
    exact ⟨g, rfl, hb, (Array.getElem?_eq_some_iff.1 h2).1⟩
theorem RowU.cell {w : World} {B g c : Nat} {v : List Nat} (h : RowU w B g c v) {j x : Nat} (hx : v[j]? = some x) : w.cell? ⟨g, j, none⟩ = some (.int .u32 ((x : Nat) : Int)) := by
  obtain ⟨b, off, hA, _, hc⟩ := h.read.at_ hx
  injection hA with hA
  injection hA with h1 h2
  subst h1 h2
  have := hc 0 _ rfl
  rw [show 0 + j * encU.size + 0 = j from by show 0 + j * 1 + 0 = j; omega] at this
  exact this
theorem RowU.free {w : World} {B g c : Nat} {v : List Nat} (h : RowU w B g c v) (j : Nat) : w.frozen? ⟨g, j, none⟩ = false := by
  rcases h.2 with ⟨h0, _⟩ | ⟨g', cap, cur, h1, hb, h2, _⟩
  · injection h0 with h0; cases h0
  · injection h1 with h1 _ _
    injection h1 with h1
    injection h1 with h1
    subst h1
    simp [World.frozen?, h2]
theorem RowU.set {w : World} {B g c : Nat} {v : List Nat} (h : RowU w B g c v) (j x : Nat) : RowU (w.setCell ⟨g, j, none⟩ (.int .u32 ((x : Nat) : Int))) B g c (v.set j x) := by
  have := (World.ownsRow.stored h j (Value.int .u32 ((x : Nat) : Int))).1
  unfold RowU OwnL
  rw [List.length_set, flat_U, List.map_set]
  rw [flat_U] at this
  exact this
theorem rowU_ne {w : World} {B g c b : Nat} {v : List Nat} {cs : List Value} (h : RowU w B g c v) (hb : BoxAt w b 105 cs) : g ≠ b := by
  rintro rfl
  obtain ⟨cur, hc⟩ := OwnL.type_ h rfl
  have h1 : w.heap[g]? = some (.cells cs.toArray 105 (0, 0)) := hb
  rw [show (⟨g, 0, none⟩ : Addr).block = g from rfl, h1] at hc
  injection hc with hc
  injection hc with _ hc _
  exact absurd hc (by decide)
theorem RowU.lt {w : World} {B g c : Nat} {v : List Nat} (h : RowU w B g c v) (hl : 0 < v.length) : B ≤ g ∧ g < w.heap.size := by
  obtain ⟨g', hA, h1, h2⟩ := own_someU h hl
  injection hA with hA
  injection hA with hA
  subst hA
  exact ⟨h1, h2⟩
theorem mix4 {g v : List Nat} (hg : OkV 8 g) (hv : OkV 16 v) {i : Nat} (hi : i < 8) : ∃ q p0 p1 x1 x2 : Nat, g[i]? = some q ∧ v[i]? = some p0 ∧ v[i + 8]? = some p1 ∧ bits .xor .u32 (p0 : Int) (p1 : Int) = ((x1 : Nat) : Int) ∧ bits .xor .u32 (q : Int) (x1 : Int) = ((x2 : Nat) : Int) ∧ g.set i (g.getD i 0 ^^^ (v.getD i 0 ^^^ v.getD (i + 8) 0)) = g.set i x2 ∧ OkV 8 (g.set i x2) :=
  ⟨_, _, _, _, _, OkV.at_ hg hi, OkV.at_ hv (by omega), OkV.at_ hv (by omega), u32_xor_nat _ _ (hv.get _) (hv.get _), u32_xor_nat _ _ (hg.get _) (xor_lt32 (hv.get _) (hv.get _)), rfl, hg.set _ (xor_lt32 (hg.get _) (xor_lt32 (hv.get _) (hv.get _)))⟩
theorem dig_more {s blk : List UInt8} {a mny : Nat} {h v H2 : List Nat} (hblk : (s.drop a).take 64 = blk) (hl : a + 64 < s.length) (hm : a + blk.length = mny) (hv : allGo (padB blk) sigN (startV h mny false) = v) (he : endGo v 8 0 h = H2) (hg : digGo h a (s.drop a) = digN s) : digGo H2 (a + 64) (s.drop (a + 64)) = digN s := by
  have hlen : blk.length = 64 := by rw [← hblk]; simp; omega
  have hpad : padB blk = blk := by unfold padB; rw [hlen]; simp
  rw [digGo_more (by rw [List.length_drop]; omega), List.drop_drop, hblk] at hg
  rw [← hg, ← he, ← hv, hpad, ← hm, hlen]
  rfl
theorem dig_last {s blk : List UInt8} {a mny : Nat} {h v H2 : List Nat} (hblk : (s.drop a).take 64 = blk) (hl : s.length ≤ a + 64) (ha : a ≤ s.length) (hm : a + blk.length = mny) (hv : allGo (padB blk) sigN (startV h mny true) = v) (he : endGo v 8 0 h = H2) (hg : digGo h a (s.drop a) = digN s) : H2 = digN s := by
  have hb : blk = s.drop a := by rw [← hblk, List.take_of_length_le (by rw [List.length_drop]; omega)]
  rw [digGo_last (by rw [List.length_drop]; omega), ← hb] at hg
  rw [← hg, ← he, ← hv, ← hm]
  rfl
theorem le4_step (x : Nat) (hx : x < 4294967296) (m : Nat) (hm : m < 4) : (le4 x).take m ++ [UInt8.ofNat (x / 256 ^ m % 256)] = (le4 x).take (m + 1) := by
  have h3 : x / 16777216 % 256 = x / 16777216 := Nat.mod_eq_of_lt (by omega)
  match m, hm with
  | 0, _ => simp [le4]
  | 1, _ => simp [le4]
  | 2, _ => simp [le4]
  | 3, _ => simp [le4, h3]
theorem pow_step (x m : Nat) : x / 256 ^ (m + 1) = x / 256 ^ m / 256 := by rw [Nat.pow_succ, Nat.div_div_eq_div_mul]
theorem RowU.up {w : World} {B g c : Nat} {v : List Nat} (h : RowU w B g c v) : RowU w g g c v := by
  refine ⟨h.1, ?_⟩
  rcases h.2 with h0 | ⟨g', cap, cur, h1, hb, h2, h3⟩
  · exact Or.inl h0
  · have he : g = g' := by
      injection h1 with h1 _ _
      injection h1 with h1
      injection h1 with h1
    exact Or.inr ⟨g', cap, cur, h1, by omega, h2, h3⟩
end Go.Proofs.YtemjoiaapfhenaaGreatDoor
end

/- WAs -/
section
namespace Go.Proofs.YtemjoiaapfhenaaGreatDoor
open Go.RowKit Go.Larder
theorem AS.laid {l : List (String × DataW Unit)} {w : World} (hp : (l.all fun x => x.2.handleName?.isNone) = true) (h : laidMetH Tryz.prog l w) (n : Nat) (hn : l[n]? = some ("strings.asciiSpace", Lib.tabData .u8 Lib.asciiSpaceTab)) : AS w := by
  rw [MakeChecks.laidMetH_plain _ _ _ hp] at h
  clear hp
  induction l generalizing n with
  | nil => cases hn
  | cons x l ih =>
    cases n with
    | zero =>
      have hx : x = ("strings.asciiSpace", Lib.tabData .u8 Lib.asciiSpaceTab) := by simpa using hn
      subst hx
      exact Lib.tabIs_of_head (g := 0) (t := 155) (e := 5) (n := 256) (by kernel_rfl) (by kernel_rfl) Tryz.underlying155 Tryz.underlying5 (by kernel_rfl) (by kernel_rfl) h
    | succ n => exact ih h.tail n (by simpa using hn)
end Go.Proofs.YtemjoiaapfhenaaGreatDoor
end

/- WNum -/
section
namespace Go.Proofs.YtemjoiaapfhenaaGreatDoor
open Go.RowKit Go.Larder
set_option linter.unusedVariables false
set_option linter.unusedSimpArgs false
set_option maxHeartbeats 2000000 in
theorem w_dnumber (l : List UInt8) (hl : l.length ≤ 18) (w : World) :
    Calls Tryz.prog 112 #[S l] w fun e w' => e = .returned (.int .i64 (nm l)) ∧ w = w' := by
  have HR := Lib.hid (show nm l = nmGo 0 l from rfl)
  go_enter Tryz.func112, Tryz.ntmps112
  go_wp2_with fail
  go_loop [3, 7] (fun n' i' => ∃ (k : Nat) (n : Int), i' = .int .i64 k ∧ n' = .int .i64 n ∧ k ≤ l.length ∧ 0 ≤ n ∧ Hid (n + 1 ≤ (10 ^ k : Nat)) ∧ Hid (nmGo n (l.drop k) = nm l)) (fun _ i' => l.length - (intOf i').toNat)
  case atStart => exact ⟨0, 0, rfl, rfl, by omega, by omega, Lib.hid (by omega), Lib.hid rfl⟩
  case round =>
    obtain ⟨k, n, rfl, rfl, hk, hn0, hn1, heq⟩ := hrel
    have hn2 : n < 1000000000000000000 := by have := pow10_le (k := k) (by omega); have := hn1.out; omega
    by_cases hlt : k < l.length
    · obtain ⟨x, hx, hs⟩ := drop_step hlt
      have Hx := Lib.hid hx
      have hg : ∀ h, l[k]'h = x := fun h => by rw [List.getElem?_eq_getElem h] at hx; exact Option.some.inj hx
      have heq := heq.out
      rw [hs] at heq
      have hx8 := x.toNat_lt
      cases ht : inTab tensTab x
      · have hno := digN' x ht
        rw [nmGo_no ht] at heq
        have Hq := Lib.hid heq
        clear heq hs hx ht
        by_cases h1 : (x.toNat : Int) < 48
        · go_wp2_with fail
          go_ret
          rw [← Hq.out]
          exact ⟨rfl, rfl⟩
        · have h2 : (57 : Int) < (x.toNat : Int) := by omega
          go_wp2_with fail
          go_ret
          rw [← Hq.out]
          exact ⟨rfl, rfl⟩
      · obtain ⟨h48, h57⟩ := digB' x ht
        rw [nmGo_yes ht] at heq
        have Hq := Lib.hid heq
        clear heq hs hx ht
        have h1 : ¬ (x.toNat : Int) < 48 := by omega
        have h2 : ¬ (57 : Int) < (x.toNat : Int) := by omega
        have hn3 : n ≤ 900000000000000000 := by have : (10 ^ k : Nat) ≤ 10 ^ 17 := Nat.pow_le_pow_right (by omega) (by omega); have := hn1.out; omega
        have e1 : IntKind.i64.wrap (10 * n) = 10 * n := IntWalk.i64_in _ ⟨by omega, by omega⟩
        have e2 : IntKind.u8.wrap ((x.toNat : Int) - 48) = (x.toNat : Int) - 48 := by rw [IntKind.wrap_u8]; omega
        have e3 : IntKind.i64.wrap ((x.toNat : Int) - 48) = (x.toNat : Int) - 48 := IntWalk.i64_in _ ⟨by omega, by omega⟩
        have e4 : IntKind.i64.wrap (10 * n + ((x.toNat : Int) - 48)) = 10 * n + ((x.toNat : Int) - 48) := IntWalk.i64_in _ ⟨by omega, by omega⟩
        have Hb : Hid (10 * n + ((x.toNat : Int) - 48) + 1 ≤ (10 ^ (k + 1) : Nat)) := Lib.hid (by have := hn1.out; rw [Nat.pow_succ]; omega)
        go_wp2_with fail
        go_round
        case rel => exact ⟨k + 1, 10 * n + ((x.toNat : Int) - 48), by go_num, by first | rfl | (simp; done), by omega, by omega, Hb, Hq⟩
        case measure => simp [intOf]; omega
    · obtain rfl : k = l.length := by omega
      have heq := heq.out
      rw [List.drop_length] at heq
      have Hq := Lib.hid heq
      clear heq
      go_wp2_with fail
      go_ret
      rw [← Hq.out]
      exact ⟨rfl, rfl⟩
theorem cnt_long {l : List UInt8} {m : Int} (h : 18 < l.length) : cnt l m = -1 := by simp [cnt, h]
theorem cnt_nil {m : Int} : cnt [] m = -1 := by simp [cnt]
theorem cnt_zero {l : List UInt8} {m : Int} (h : 0 < l.length) : cnt (48 :: l) m = -1 := by simp [cnt, h]
theorem cnt_in {c : UInt8} {l : List UInt8} {m : Int} (h : l.length + 1 ≤ 18) (h2 : l.length = 0 ∨ c ≠ 48) : cnt (c :: l) m = if m < nm (c :: l) then -1 else nm (c :: l) := by
  unfold cnt
  rw [if_neg]
  simp
  refine ⟨by omega, ?_⟩
  intro h3
  rcases h2 with h2 | h2
  · omega
  · exact h2
set_option maxHeartbeats 4000000 in
theorem w_count_in (c : UInt8) (l : List UInt8) (m : Int) (hl : l.length + 1 ≤ 18) (hm : 0 ≤ m ∧ m ≤ 4611686018427387904) (h2 : l.length = 0 ∨ c ≠ 48) (w : World) :
    Calls Tryz.prog 23 #[S (c :: l), .int .i64 m] w fun e w' => e = .returned (.int .i64 (if m < nm (c :: l) then -1 else nm (c :: l))) ∧ w = w' := by
  obtain ⟨hm0, hm1⟩ := hm
  have h2' : ¬ 0 < l.length ∨ ((c.toNat : Int) == 48) = false := by
    rcases h2 with h2 | h2
    · exact .inl (by omega)
    · refine .inr ?_
      have := u8_beq c 48 (by omega)
      rw [show ((48 : Nat) : Int) = 48 from rfl] at this
      rw [this]
      simpa using h2
  clear h2
  obtain ⟨L, hL⟩ : ∃ L, c :: l = L := ⟨_, rfl⟩
  have hne : L.isEmpty = false := by rw [← hL]; rfl
  have hlen : L.length = l.length + 1 := by rw [← hL]; rfl
  have hlL : L.length ≤ 18 := by omega
  have hlL1 : 1 ≤ L.length := by omega
  have hg0 : ∀ h, L[0]'h = c := fun h => by subst hL; rfl
  have h2'' : ¬ 1 < L.length ∨ ((c.toNat : Int) == 48) = false := by rcases h2' with h | h; exact .inl (by omega); exact .inr h
  rw [hL]
  clear hL hlen h2' hl
  obtain ⟨R, hR⟩ : ∃ R, (if m < nm L then -1 else nm L) = R := ⟨_, rfl⟩
  rw [hR]
  have HR := Lib.hid hR
  clear hR
  rcases Nat.lt_or_ge 1 L.length with h1 | h1
  all_goals
    (first
      | (have hc : ((c.toNat : Int) == 48) = false := by rcases h2'' with h | h; (exact absurd h1 h); exact h)
      | skip)
    clear h2''
    go_enter Tryz.func23, Tryz.ntmps23
    go_wp2_with fail
    go_loop [5, 26] (fun n' i' => ∃ (k : Nat) (n : Int), i' = .int .i64 k ∧ n' = .int .i64 n ∧ k ≤ L.length ∧ 0 ≤ n ∧ Hid (n + 1 ≤ (10 ^ k : Nat)) ∧ Hid (nmGo n (L.drop k) = nm L)) (fun _ i' => L.length - (intOf i').toNat)
    case atStart => exact ⟨0, 0, rfl, rfl, by omega, by omega, Lib.hid (by omega), Lib.hid rfl⟩
    case round =>
      obtain ⟨k, n, rfl, rfl, hk, hn0, hn1, heq⟩ := hrel
      have hn2 : n < 1000000000000000000 := by have := pow10_le (k := k) (by omega); have := hn1.out; omega
      by_cases hlt : k < L.length
      · obtain ⟨x, hx, hs⟩ := drop_step hlt
        have Hx := Lib.hid hx
        have hg : ∀ h, L[k]'h = x := fun h => by rw [List.getElem?_eq_getElem h] at hx; exact Option.some.inj hx
        have heq := heq.out
        rw [hs] at heq
        have hx8 := x.toNat_lt
        cases ht : inTab tensTab x
        · have hno := digN' x ht
          rw [nmGo_no ht] at heq
          have Hq := Lib.hid (show R = -1 from by rw [← HR.out, ← heq, if_neg (by omega)])
          clear heq hs hx ht
          by_cases h3 : (x.toNat : Int) < 48
          · go_wp2_with fail
            go_ret
            rw [Hq.out]
            exact ⟨rfl, rfl⟩
          · have h4 : (57 : Int) < (x.toNat : Int) := by omega
            go_wp2_with fail
            go_ret
            rw [Hq.out]
            exact ⟨rfl, rfl⟩
        · obtain ⟨h48, h57⟩ := digB' x ht
          rw [nmGo_yes ht] at heq
          have Hq := Lib.hid heq
          clear heq hs hx ht
          have h3 : ¬ (x.toNat : Int) < 48 := by omega
          have h4 : ¬ (57 : Int) < (x.toNat : Int) := by omega
          have hn3 : n ≤ 900000000000000000 := by have : (10 ^ k : Nat) ≤ 10 ^ 17 := Nat.pow_le_pow_right (by omega) (by omega); have := hn1.out; omega
          have e1 : IntKind.i64.wrap (10 * n) = 10 * n := IntWalk.i64_in _ ⟨by omega, by omega⟩
          have e2 : IntKind.u8.wrap ((x.toNat : Int) - 48) = (x.toNat : Int) - 48 := by rw [IntKind.wrap_u8]; omega
          have e3 : IntKind.i64.wrap ((x.toNat : Int) - 48) = (x.toNat : Int) - 48 := IntWalk.i64_in _ ⟨by omega, by omega⟩
          have e4 : IntKind.i64.wrap (10 * n + ((x.toNat : Int) - 48)) = 10 * n + ((x.toNat : Int) - 48) := IntWalk.i64_in _ ⟨by omega, by omega⟩
          have Hb : Hid (10 * n + ((x.toNat : Int) - 48) + 1 ≤ (10 ^ (k + 1) : Nat)) := Lib.hid (by have := hn1.out; rw [Nat.pow_succ]; omega)
          go_wp2_with fail
          go_round
          case rel => exact ⟨k + 1, 10 * n + ((x.toNat : Int) - 48), by go_num, by first | rfl | (simp; done), by omega, by omega, Hb, Hq⟩
          case measure => simp [intOf]; omega
      · obtain rfl : k = L.length := by omega
        have heq := heq.out
        rw [List.drop_length] at heq
        have hnm : nm L = n := heq.symm
        by_cases h5 : m < n
        · have Hq := Lib.hid (show R = -1 from by rw [← HR.out, hnm, if_pos h5])
          clear heq hnm
          go_wp2_with fail
          go_ret
          rw [Hq.out]
          exact ⟨rfl, rfl⟩
        · have Hq := Lib.hid (show R = n from by rw [← HR.out, hnm, if_neg h5])
          clear heq hnm
          go_wp2_with fail
          go_ret
          rw [Hq.out]
          exact ⟨rfl, rfl⟩
theorem w_count (l : List UInt8) (hl : l.length ≤ 140737488351232) (m : Int) (hm : 0 ≤ m ∧ m ≤ 4611686018427387904) (w : World) :
    Calls Tryz.prog 23 #[S l, .int .i64 m] w fun e w' => e = .returned (.int .i64 (cnt l m)) ∧ w = w' := by
  rcases l with _ | ⟨c, l⟩
  · rw [cnt_nil]
    go_enter Tryz.func23, Tryz.ntmps23
    go_wp2_with fail
    go_ret
    exact ⟨rfl, rfl⟩
  · by_cases hlen : 18 < l.length + 1
    · rw [cnt_long (by simpa using hlen)]
      simp only [List.length_cons] at hl
      go_enter Tryz.func23, Tryz.ntmps23
      go_wp2_with fail
      go_ret
      exact ⟨rfl, rfl⟩
    · by_cases hz : c = 48 ∧ 0 < l.length
      · obtain ⟨rfl, h0⟩ := hz
        rw [cnt_zero h0]
        go_enter Tryz.func23, Tryz.ntmps23
        go_wp2_with fail
        go_ret
        exact ⟨rfl, rfl⟩
      · have h2 : l.length = 0 ∨ c ≠ 48 := by
          rcases Nat.eq_zero_or_pos l.length with h | h
          · exact .inl h
          · exact .inr fun hc => hz ⟨hc, h⟩
        rw [cnt_in (by omega) h2]
        exact w_count_in c l m (by omega) hm h2 w
end Go.Proofs.YtemjoiaapfhenaaGreatDoor
end

/- WDpo -/
section
namespace Go.Proofs.YtemjoiaapfhenaaGreatDoor
open Go.RowKit Go.Larder
set_option linter.unusedVariables false
set_option linter.unusedSimpArgs false

/-- What reading a date answers: its number, or nothing and 3. -/
def DateOut (w : World) (l : List UInt8) (e : Ending) (w' : World) : Prop :=
  ((∃ n, e = .returned (.tuple #[.int .i64 n, .int .i64 0]) ∧ isDate n l) ∨ (e = .returned (.tuple #[.int .i64 0, .int .i64 3]) ∧ ∀ n, ¬ isDate n l)) ∧ Below w.heap.size w w'
theorem DateOut.no {w w' : World} {l : List UInt8} (h : ∀ n, ¬ isDate n l) (hb : Below w.heap.size w w') : DateOut w l (.returned (.tuple #[.int .i64 0, .int .i64 3])) w' := ⟨.inr ⟨rfl, h⟩, hb⟩
theorem DateOut.yes {w w' : World} {l : List UInt8} {n : Int} (h : isDate n l) (hb : Below w.heap.size w w') : DateOut w l (.returned (.tuple #[.int .i64 n, .int .i64 0])) w' := ⟨.inl ⟨n, rfl, h⟩, hb⟩
theorem slice_seg (l : List UInt8) (a b : Nat) (h : b ≤ l.length) (hab : a ≤ b) (w : World) :
    (Instr.slice 9 (.string ⟨l.toArray⟩) (some (.int .i64 (a : Int))) (some (.int .i64 (b : Int))) none).run Tryz.prog w = .ok (.string ⟨(seg l a b).toArray⟩) w := by
  refine (run_slice_str 9 Tryz.underlying9 l a b (by omega) (by omega) (by omega) w).trans ?_
  rfl
end Go.Proofs.YtemjoiaapfhenaaGreatDoor
end

/- WLowR -/
section
namespace Go.Proofs.YtemjoiaapfhenaaGreatDoor
open Go.RowKit Go.Larder
set_option linter.unusedVariables false
set_option linter.unusedSimpArgs false

def greatL : List UInt8 := [65, 66, 67, 68, 69, 70, 71, 72, 73, 74, 75, 76, 77, 78, 79, 80, 81, 82, 83, 84, 85, 86, 87, 88, 89, 90]
def smallL : List UInt8 := [97, 98, 99, 100, 101, 102, 103, 104, 105, 106, 107, 108, 109, 110, 111, 112, 113, 114, 115, 116, 117, 118, 119, 120, 121, 122]
theorem idx_great_nat : ∀ n : Fin 256, Lib.indexByte greatL (UInt8.ofNat n.val) = if 65 ≤ n.val ∧ n.val ≤ 90 then ((n.val : Int) - 65) else -1 := by decide +kernel
theorem small_nat : ∀ n : Fin 256, 65 ≤ n.val → n.val ≤ 90 → (smallL.drop (n.val - 65)).take 1 = [lowB (UInt8.ofNat n.val)] := by decide +kernel
theorem idx_great (x : UInt8) : Lib.indexByte greatL x = if 65 ≤ x.toNat ∧ x.toNat ≤ 90 then ((x.toNat : Int) - 65) else -1 := by
  have := idx_great_nat ⟨x.toNat, x.toNat_lt⟩
  simpa using this
theorem small_at (x : UInt8) (h1 : 65 ≤ x.toNat) (h2 : x.toNat ≤ 90) : (smallL.drop (x.toNat - 65)).take 1 = [lowB x] := by
  have := small_nat ⟨x.toNat, x.toNat_lt⟩ h1 h2
  simpa using this

set_option maxHeartbeats 1000000 in
set_option maxRecDepth 100000 in
theorem lo_liteIndexByte (l : List UInt8) (c : UInt8) (w : World) :
    Calls Tryz.prog 154 #[S l, .int .u8 c.toNat] w fun e w' => e = .returned (.int .i64 (Lib.indexByte l c)) ∧ w = w' := by
  go_enter Tryz.func154, Tryz.ntmps154
  go_wp2
  rw [run_callFunc_extern Tryz.func190 (by kernel_rfl) (by kernel_rfl) (by kernel_rfl) (e := Extern.BytealgIndexByte.indexByte) (by kernel_rfl), Lib.run_indexByteString]
  simp only [Result.andThen]
  rw [Oper.upon_value]
  go_wp2
  go_ret
  exact ⟨by simp, rfl⟩

theorem lo_IndexByte (l : List UInt8) (c : UInt8) (w : World) :
    Calls Tryz.prog 99 #[S l, .int .u8 c.toNat] w fun e w' => e = .returned (.int .i64 (Lib.indexByte l c)) ∧ w = w' := by
  go_enter Tryz.func99, Tryz.ntmps99
  go_wp2_with (go_at_call 154; refine (lo_liteIndexByte l c _).mono ?_; rintro e w' ⟨rfl, rfl⟩)
  go_ret
  exact ⟨rfl, rfl⟩

set_option maxHeartbeats 1000000 in
theorem w_LowerR (l : List UInt8) (hl : l.length ≤ 140737488351232) (w : World) :
    Calls Tryz.prog 88 #[S l] w (fun e w' => e = .returned (S (lowL l)) ∧ w = w') := by
  go_enter Tryz.func88, Tryz.ntmps88
  go_wp2_with fail
  go_loop [3, 8] (fun o i' => ∃ k : Nat, i' = .int .i64 k ∧ k ≤ l.length ∧ o = S (lowL (l.take k))) (fun _ i' => l.length - (intOf i').toNat)
  case atStart => exact ⟨0, rfl, by omega, rfl⟩
  case round =>
    obtain ⟨k, rfl, hk, rfl⟩ := hrel
    have hll : (lowL (l.take k)).length = k := by rw [lowL_len]; simp; omega
    by_cases hlt : k < l.length
    · obtain ⟨x, hx, hs⟩ := drop_step hlt
      have hg : ∀ h, l[k]'h = x := fun h => by rw [List.getElem?_eq_getElem h] at hx; exact Option.some.inj hx
      have hnext : lowL (l.take (k + 1)) = lowL (l.take k) ++ [lowB x] := by
        rw [List.take_add_one, hx]; simp [lowL]
      have Hnext := Lib.hid hnext; clear hnext hs hx
      by_cases h12 : 65 ≤ x.toNat ∧ x.toNat ≤ 90
      · have hi := idx_great x
        rw [if_pos h12] at hi
        go_wp2_with (go_at_call 99; refine (lo_IndexByte greatL x _).mono ?_; rintro e w' ⟨rfl, rfl⟩)
        go_round
        case rel => exact ⟨k + 1, by go_num, by omega, by rw [Hnext.out, ← small_at x h12.1 h12.2]; rfl⟩
        case measure => simp [intOf]; omega
      · have hi := idx_great x
        rw [if_neg h12] at hi
        have hd : List.take 1 (List.drop k l) = [lowB x] := by rw [lowB_out h12, List.drop_eq_getElem_cons hlt, hg]; rfl
        have hd2 : List.take (k + 1 - k) (List.drop k l) = [lowB x] := by rw [show k + 1 - k = 1 from by omega]; exact hd
        go_wp2_with (go_at_call 99; refine (lo_IndexByte greatL x _).mono ?_; rintro e w' ⟨rfl, rfl⟩)
        go_round
        case rel => exact ⟨k + 1, by go_num, by omega, by rw [Hnext.out]⟩
        case measure => simp [intOf]; omega
    · obtain rfl : k = l.length := by omega
      rw [List.take_length] at hll ⊢
      go_wp2_with fail
      go_ret
      exact ⟨rfl, rfl⟩
end Go.Proofs.YtemjoiaapfhenaaGreatDoor
end

/- WIs -/
section
namespace Go.Proofs.YtemjoiaapfhenaaGreatDoor
open Go.RowKit Go.Larder
set_option linter.unusedVariables false
set_option linter.unusedSimpArgs false

set_option maxHeartbeats 1000000 in
theorem w_liteIndex1 (l : List UInt8) (c : UInt8) (w : World) :
    Calls Tryz.prog 135 #[S l, S [c]] w fun e w' => e = .returned (.int .i64 (Lib.indexByte l c)) ∧ w = w' := by
  cases hcl : ([c] == l)
  · go_enter Tryz.func135, Tryz.ntmps135
    go_wp2_with (go_at_call 154; refine (lo_liteIndexByte l c _).mono ?_; rintro e w' ⟨rfl, rfl⟩)
    go_ret
    exact ⟨rfl, rfl⟩
  · have hl : l = [c] := by have := hcl; simp at this; exact this.symm
    subst hl
    have h0 : Lib.indexByte [c] c = 0 := by simp [Lib.indexByte]
    go_enter Tryz.func135, Tryz.ntmps135
    go_wp2_with fail
    go_ret
    exact ⟨by rw [h0]; rfl, rfl⟩
theorem w_Index1 (l : List UInt8) (c : UInt8) (w : World) :
    Calls Tryz.prog 71 #[S l, S [c]] w fun e w' => e = .returned (.int .i64 (Lib.indexByte l c)) ∧ w = w' := by
  go_enter Tryz.func71, Tryz.ntmps71
  go_wp2_with (go_at_call 135; refine (w_liteIndex1 l c _).mono ?_; rintro e w' ⟨rfl, rfl⟩)
  go_ret
  exact ⟨rfl, rfl⟩
theorem w_Contains1 (l : List UInt8) (c : UInt8) (w : World) :
    Calls Tryz.prog 85 #[S l, S [c]] w fun e w' => e = .returned (.bool (inTab l c)) ∧ w = w' := by
  go_enter Tryz.func85, Tryz.ntmps85
  go_wp2_with (go_at_call 71; refine (w_Index1 l c _).mono ?_; rintro e w' ⟨rfl, rfl⟩)
  go_ret
  exact ⟨rfl, rfl⟩

theorem w_isTokenByte (c : UInt8) (w : World) :
    Calls Tryz.prog 204 #[.int .u8 c.toNat] w fun e w' => e = .returned (.bool (tokB c)) ∧ w = w' := by
  have hj : (0 : Int) ≤ Lib.indexByte signsL c ↔ inTab signsL c = true := by simp [inTab]
  go_enter Tryz.func204, Tryz.ntmps204
  go_wp2_with (go_at_call 99; refine (lo_IndexByte signsL c _).mono ?_; rintro e w' ⟨rfl, rfl⟩)
  all_goals
    go_ret
    rw [tokB_eq]
    refine ⟨?_, rfl⟩
    simp_all [inTab]
    try omega

set_option maxHeartbeats 1000000 in
theorem w_IsToken (l : List UInt8) (hl : l.length ≤ 140737488351232) (w : World) :
    Calls Tryz.prog 169 #[S l] w fun e w' => e = .returned (.bool (isTok l)) ∧ w = w' := by
  go_enter Tryz.func169, Tryz.ntmps169
  go_wp2_with fail
  go_loop [6] (fun i' => ∃ k : Nat, i' = .int .i64 k ∧ k ≤ l.length ∧ (l.take k).all tokB = true) (fun i' => l.length - (intOf i').toNat)
  case atStart => exact ⟨0, rfl, by omega, rfl⟩
  case round =>
    obtain ⟨k, rfl, hk, hall⟩ := hrel
    by_cases hlt : k < l.length
    · obtain ⟨x, hx, _⟩ := drop_step hlt
      have Hall := Lib.hid hall; clear hall
      have Hx := Lib.hid hx
      have hg : ∀ h, l[k]'h = x := fun h => by rw [List.getElem?_eq_getElem h] at hx; exact Option.some.inj hx
      cases ht : tokB x
      · go_wp2_with (go_at_call 204; refine (w_isTokenByte x _).mono ?_; rintro e w' ⟨rfl, rfl⟩)
        go_ret
        exact ⟨by simp [isTok, all_bad Hx.out ht], rfl⟩
      · go_wp2_with (go_at_call 204; refine (w_isTokenByte x _).mono ?_; rintro e w' ⟨rfl, rfl⟩)
        go_round
        case rel => exact ⟨k + 1, by go_num, by omega, all_step Hx.out Hall.out ht⟩
        case measure => simp [intOf]; omega
    · obtain rfl : k = l.length := by omega
      rw [List.take_length] at hall
      go_wp2_with fail
      go_ret
      refine ⟨?_, rfl⟩
      cases l <;> simp_all [isTok]

set_option maxHeartbeats 1000000 in
theorem w_allOf (l t : List UInt8) (hl : l.length ≤ 140737488351232) (w : World) :
    Calls Tryz.prog 79 #[S l, S t] w fun e w' => e = .returned (.bool (l.all (inTab t))) ∧ w = w' := by
  go_enter Tryz.func79, Tryz.ntmps79
  go_wp2_with fail
  go_loop [8] (fun i' => ∃ k : Nat, i' = .int .i64 k ∧ k ≤ l.length ∧ (l.take k).all (inTab t) = true) (fun i' => l.length - (intOf i').toNat)
  case atStart => exact ⟨0, rfl, by omega, rfl⟩
  case round =>
    obtain ⟨k, rfl, hk, hall⟩ := hrel
    by_cases hlt : k < l.length
    · obtain ⟨x, hx, _⟩ := drop_step hlt
      have Hall := Lib.hid hall; clear hall
      have Hx := Lib.hid hx
      have hg : ∀ h, l[k]'h = x := fun h => by rw [List.getElem?_eq_getElem h] at hx; exact Option.some.inj hx
      have hd : List.take 1 (List.drop k l) = [x] := by rw [List.drop_eq_getElem_cons hlt, hg]; rfl
      have hd2 : List.take (k + 1 - k) (List.drop k l) = [x] := by rw [show k + 1 - k = 1 from by omega]; exact hd
      cases ht : inTab t x
      · go_wp2_with (go_at_call 85; refine (w_Contains1 t x _).mono ?_; rintro e w' ⟨rfl, rfl⟩)
        go_ret
        have hq := all_bad Hx.out ht
        rw [hq]
        exact ⟨rfl, rfl⟩
      · go_wp2_with (go_at_call 85; refine (w_Contains1 t x _).mono ?_; rintro e w' ⟨rfl, rfl⟩)
        go_round
        case rel => exact ⟨k + 1, by go_num, by omega, all_step Hx.out Hall.out ht⟩
        case measure => simp [intOf]; omega
    · obtain rfl : k = l.length := by omega
      rw [List.take_length] at hall
      go_wp2_with fail
      go_ret
      exact ⟨rfl, rfl⟩

theorem w_TokenR (l : List UInt8) (hl : l.length ≤ 140737488351232) (w : World) :
    Calls Tryz.prog 89 #[S l] w fun e w' => e = .returned (.bool (isTok l)) ∧ w = w' := by
  go_enter Tryz.func89, Tryz.ntmps89
  cases l with
  | nil =>
    go_wp2_with fail
    go_ret
    exact ⟨rfl, rfl⟩
  | cons a l =>
    go_wp2_with (go_at_call 79; refine (w_allOf (a :: l) tokTab hl _).mono ?_; rintro e w' ⟨rfl, rfl⟩)
    go_ret
    exact ⟨rfl, rfl⟩
end Go.Proofs.YtemjoiaapfhenaaGreatDoor
end

/- WGet -/
section
namespace Go.Proofs.YtemjoiaapfhenaaGreatDoor
open Go.RowKit Go.Larder
set_option linter.unusedVariables false
set_option linter.unusedSimpArgs false

theorem sl_strG : SlT Tryz.prog 22 9 1 16 := SlT.mk' (z := .string ByteArray.empty) Tryz.underlying22 (by kernel_rfl) rfl
theorem valsL_snoc {nm : List UInt8} {l : List Fld} {k : Nat} {f : Fld} (h : l[k]? = some f) : valsL nm (l.take (k + 1)) = valsL nm (l.take k) ++ (if hits nm f then [f.2] else []) := by
  rw [List.take_add_one, h]
  unfold valsL
  rw [List.filter_append, List.map_append]
  cases hh : hits nm f <;> simp [hh]
theorem valsL_len (nm : List UInt8) (l : List Fld) : (valsL nm l).length ≤ l.length := by
  unfold valsL
  rw [List.length_map]
  exact List.length_filter_le _ _

end Go.Proofs.YtemjoiaapfhenaaGreatDoor
end

/- WGetS -/
section
namespace Go.Proofs.YtemjoiaapfhenaaGreatDoor
open Go.RowKit Go.Larder
set_option linter.unusedVariables false
set_option linter.unusedSimpArgs false
end Go.Proofs.YtemjoiaapfhenaaGreatDoor
end
